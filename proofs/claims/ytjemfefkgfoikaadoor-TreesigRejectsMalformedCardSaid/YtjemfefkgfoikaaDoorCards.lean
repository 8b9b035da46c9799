/-
  DERIVED. GIVEN WITH THE SEED: THE CARDS: each row of YtjemfefkgfoikaaDoorRows.lean that lists a variable, with what it lists TIED to the program's text (the seventh form; the later family's looks); each row that meets fmt, with fmt's text TOLD by the authors' own Lean function (tested against real Go, not proved from fmt's source: count such statements apart). THE CARD IS WHAT COUNTS. Prove the row's statement (the work); the ties are given (YtjemfefkgfoikaaDoorTie.lean); close each card by the builder's one call (the guide's Derived/Test/ToyasCard.lean, 'card_holds'). Laid BY PROGRAM, IN A SANDBOX (cutbox-door.mjs). By AI agents, Wed Nov 11 2026. No macro, syntax, notation, axiom, sorry.
-/
import Derived.Test.YtjemfefkgfoikaaDoorRows
import GoSem.ClaimSeven
namespace Go.Proofs.YtjemfefkgfoikaaDoor
namespace Rows

/-- THE TIED CARD OF 'bootchainlaw04.WotsMatchesSpec'. -/
def wotsMatchesSpecCard : Claim7 := { stood := { row := wotsMatchesSpecRow, standIns := [], harness := (true, "d2d3dff847cf9e375d70765c280aee46b49b05ecdc8926e97555b3f57d28b00d"), looks := false }, kinds := [], alts := [], laidByText := true, laidKinds := [.data, .data], laidTests := true, laidLooks := .later }
def WotsMatchesSpecCardSaid : Prop := Claim7.holds Tryd.pinned (.plain (OpenSpec.ofChange wotsMatchesSpecSpec)) wotsMatchesSpecCard

/-- THE TIED CARD OF 'bootchainlaw04.WotsVerifies'. -/
def wotsVerifiesCard : Claim7 := { stood := { row := wotsVerifiesRow, standIns := [], harness := (true, "d2d3dff847cf9e375d70765c280aee46b49b05ecdc8926e97555b3f57d28b00d"), looks := false }, kinds := [], alts := [], laidByText := true, laidKinds := [.data, .data], laidTests := true, laidLooks := .later }
def WotsVerifiesCardSaid : Prop := Claim7.holds Tryd.pinned (.plain (OpenSpec.ofChange wotsVerifiesSpec)) wotsVerifiesCard

/-- THE TIED CARD OF 'bootchainlaw04.WotsDigits'. -/
def wotsDigitsCard : Claim7 := { stood := { row := wotsDigitsRow, standIns := [], harness := (true, "d2d3dff847cf9e375d70765c280aee46b49b05ecdc8926e97555b3f57d28b00d"), looks := false }, kinds := [], alts := [], laidByText := true, laidKinds := [.data, .data], laidTests := true, laidLooks := .later }
def WotsDigitsCardSaid : Prop := Claim7.holds Tryd.pinned (.plain (OpenSpec.ofChange wotsDigitsSpec)) wotsDigitsCard

/-- THE TIED CARD OF 'bootchainlaw04.WotsAntichain'. -/
def wotsAntichainCard : Claim7 := { stood := { row := wotsAntichainRow, standIns := [], harness := (true, "d2d3dff847cf9e375d70765c280aee46b49b05ecdc8926e97555b3f57d28b00d"), looks := false }, kinds := [], alts := [], laidByText := true, laidKinds := [.data, .data], laidTests := true, laidLooks := .later }
def WotsAntichainCardSaid : Prop := Claim7.holds Tryd.pinned (.plain (OpenSpec.ofChange wotsAntichainSpec)) wotsAntichainCard

/-- THE TIED CARD OF 'bootchainlaw04.WotsAdvance'. -/
def wotsAdvanceCard : Claim7 := { stood := { row := wotsAdvanceRow, standIns := [], harness := (true, "d2d3dff847cf9e375d70765c280aee46b49b05ecdc8926e97555b3f57d28b00d"), looks := false }, kinds := [], alts := [], laidByText := true, laidKinds := [.data, .data], laidTests := true, laidLooks := .later }
def WotsAdvanceCardSaid : Prop := Claim7.holds Tryd.pinned (.plain (OpenSpec.ofChange wotsAdvanceSpec)) wotsAdvanceCard

/-- THE TIED CARD OF 'bootchainlaw04.WotsReduction'. -/
def wotsReductionCard : Claim7 := { stood := { row := wotsReductionRow, standIns := [], harness := (true, "d2d3dff847cf9e375d70765c280aee46b49b05ecdc8926e97555b3f57d28b00d"), looks := false }, kinds := [], alts := [], laidByText := true, laidKinds := [.data, .data], laidTests := true, laidLooks := .later }
def WotsReductionCardSaid : Prop := Claim7.holds Tryd.pinned (.plain (OpenSpec.ofChange wotsReductionSpec)) wotsReductionCard

/-- THE TIED CARD OF 'bootchainlaw05.TreesigMatchesSpec'. -/
def treesigMatchesSpecCard : Claim7 := { stood := { row := treesigMatchesSpecRow, standIns := [], harness := (true, "d2d3dff847cf9e375d70765c280aee46b49b05ecdc8926e97555b3f57d28b00d"), looks := false }, kinds := [], alts := [], laidByText := true, laidKinds := [.data, .data], laidTests := true, laidLooks := .later }
def TreesigMatchesSpecCardSaid : Prop := Claim7.holds Tryd.pinned (.plain (OpenSpec.ofChange treesigMatchesSpecSpec)) treesigMatchesSpecCard

/-- THE TIED CARD OF 'bootchainlaw05.TreesigVerifyMatchesSpec'. -/
def treesigVerifyMatchesSpecCard : Claim7 := { stood := { row := treesigVerifyMatchesSpecRow, standIns := [], harness := (true, "d2d3dff847cf9e375d70765c280aee46b49b05ecdc8926e97555b3f57d28b00d"), looks := false }, kinds := [], alts := [], laidByText := true, laidKinds := [.data, .data], laidTests := true, laidLooks := .later }
def TreesigVerifyMatchesSpecCardSaid : Prop := Claim7.holds Tryd.pinned (.plain (OpenSpec.ofChange treesigVerifyMatchesSpecSpec)) treesigVerifyMatchesSpecCard

/-- THE TIED CARD OF 'bootchainlaw05.TreesigVerifiesOwn'. -/
def treesigVerifiesOwnCard : Claim7 := { stood := { row := treesigVerifiesOwnRow, standIns := [], harness := (true, "d2d3dff847cf9e375d70765c280aee46b49b05ecdc8926e97555b3f57d28b00d"), looks := false }, kinds := [], alts := [], laidByText := true, laidKinds := [.data, .data], laidTests := true, laidLooks := .later }
def TreesigVerifiesOwnCardSaid : Prop := Claim7.holds Tryd.pinned (.plain (OpenSpec.ofChange treesigVerifiesOwnSpec)) treesigVerifiesOwnCard

/-- THE TIED CARD OF 'bootchainlaw05.TreesigRejectsMalformed'. -/
def treesigRejectsMalformedCard : Claim7 := { stood := { row := treesigRejectsMalformedRow, standIns := [], harness := (true, "d2d3dff847cf9e375d70765c280aee46b49b05ecdc8926e97555b3f57d28b00d"), looks := false }, kinds := [], alts := [], laidByText := true, laidKinds := [.data, .data], laidTests := true, laidLooks := .later }
def TreesigRejectsMalformedCardSaid : Prop := Claim7.holds Tryd.pinned (.plain (OpenSpec.ofChange treesigRejectsMalformedSpec)) treesigRejectsMalformedCard

/-- THE TIED CARD OF 'bootchainlaw05.TreesigBindsKey'. -/
def treesigBindsKeyCard : Claim7 := { stood := { row := treesigBindsKeyRow, standIns := [], harness := (true, "d2d3dff847cf9e375d70765c280aee46b49b05ecdc8926e97555b3f57d28b00d"), looks := false }, kinds := [], alts := [], laidByText := true, laidKinds := [.data, .data], laidTests := true, laidLooks := .later }
def TreesigBindsKeyCardSaid : Prop := Claim7.holds Tryd.pinned (.plain (OpenSpec.ofChange treesigBindsKeySpec)) treesigBindsKeyCard

/-- THE TIED CARD OF 'bootchainlaw05.TreesigSharesPaths'. -/
def treesigSharesPathsCard : Claim7 := { stood := { row := treesigSharesPathsRow, standIns := [], harness := (true, "d2d3dff847cf9e375d70765c280aee46b49b05ecdc8926e97555b3f57d28b00d"), looks := false }, kinds := [], alts := [], laidByText := true, laidKinds := [.data, .data], laidTests := true, laidLooks := .later }
def TreesigSharesPathsCardSaid : Prop := Claim7.holds Tryd.pinned (.plain (OpenSpec.ofChange treesigSharesPathsSpec)) treesigSharesPathsCard

/-- THE SECOND FORM's CARD OF 'bootchainlaw04.WotsMatchesSpec'. -/
def wotsMatchesSpecUptoCard : Claim7 := { stood := { row := wotsMatchesSpecUptoRow, standIns := [], harness := (true, "d2d3dff847cf9e375d70765c280aee46b49b05ecdc8926e97555b3f57d28b00d"), looks := false }, kinds := [], alts := [], laidByText := true, laidKinds := [.data, .data], laidTests := true, laidLooks := .later }
def WotsMatchesSpecUptoCardSaid : Prop := Claim7.holds Tryd.pinned (.plain (OpenSpec.upto wotsMatchesSpecSpec)) wotsMatchesSpecUptoCard

/-- THE SECOND FORM's CARD OF 'bootchainlaw04.WotsVerifies'. -/
def wotsVerifiesUptoCard : Claim7 := { stood := { row := wotsVerifiesUptoRow, standIns := [], harness := (true, "d2d3dff847cf9e375d70765c280aee46b49b05ecdc8926e97555b3f57d28b00d"), looks := false }, kinds := [], alts := [], laidByText := true, laidKinds := [.data, .data], laidTests := true, laidLooks := .later }
def WotsVerifiesUptoCardSaid : Prop := Claim7.holds Tryd.pinned (.plain (OpenSpec.upto wotsVerifiesSpec)) wotsVerifiesUptoCard

/-- THE SECOND FORM's CARD OF 'bootchainlaw04.WotsDigits'. -/
def wotsDigitsUptoCard : Claim7 := { stood := { row := wotsDigitsUptoRow, standIns := [], harness := (true, "d2d3dff847cf9e375d70765c280aee46b49b05ecdc8926e97555b3f57d28b00d"), looks := false }, kinds := [], alts := [], laidByText := true, laidKinds := [.data, .data], laidTests := true, laidLooks := .later }
def WotsDigitsUptoCardSaid : Prop := Claim7.holds Tryd.pinned (.plain (OpenSpec.upto wotsDigitsSpec)) wotsDigitsUptoCard

/-- THE SECOND FORM's CARD OF 'bootchainlaw04.WotsAntichain'. -/
def wotsAntichainUptoCard : Claim7 := { stood := { row := wotsAntichainUptoRow, standIns := [], harness := (true, "d2d3dff847cf9e375d70765c280aee46b49b05ecdc8926e97555b3f57d28b00d"), looks := false }, kinds := [], alts := [], laidByText := true, laidKinds := [.data, .data], laidTests := true, laidLooks := .later }
def WotsAntichainUptoCardSaid : Prop := Claim7.holds Tryd.pinned (.plain (OpenSpec.upto wotsAntichainSpec)) wotsAntichainUptoCard

/-- THE SECOND FORM's CARD OF 'bootchainlaw04.WotsAdvance'. -/
def wotsAdvanceUptoCard : Claim7 := { stood := { row := wotsAdvanceUptoRow, standIns := [], harness := (true, "d2d3dff847cf9e375d70765c280aee46b49b05ecdc8926e97555b3f57d28b00d"), looks := false }, kinds := [], alts := [], laidByText := true, laidKinds := [.data, .data], laidTests := true, laidLooks := .later }
def WotsAdvanceUptoCardSaid : Prop := Claim7.holds Tryd.pinned (.plain (OpenSpec.upto wotsAdvanceSpec)) wotsAdvanceUptoCard

/-- THE SECOND FORM's CARD OF 'bootchainlaw04.WotsReduction'. -/
def wotsReductionUptoCard : Claim7 := { stood := { row := wotsReductionUptoRow, standIns := [], harness := (true, "d2d3dff847cf9e375d70765c280aee46b49b05ecdc8926e97555b3f57d28b00d"), looks := false }, kinds := [], alts := [], laidByText := true, laidKinds := [.data, .data], laidTests := true, laidLooks := .later }
def WotsReductionUptoCardSaid : Prop := Claim7.holds Tryd.pinned (.plain (OpenSpec.upto wotsReductionSpec)) wotsReductionUptoCard

/-- THE SECOND FORM's CARD OF 'bootchainlaw05.TreesigMatchesSpec'. -/
def treesigMatchesSpecUptoCard : Claim7 := { stood := { row := treesigMatchesSpecUptoRow, standIns := [], harness := (true, "d2d3dff847cf9e375d70765c280aee46b49b05ecdc8926e97555b3f57d28b00d"), looks := false }, kinds := [], alts := [], laidByText := true, laidKinds := [.data, .data], laidTests := true, laidLooks := .later }
def TreesigMatchesSpecUptoCardSaid : Prop := Claim7.holds Tryd.pinned (.plain (OpenSpec.upto treesigMatchesSpecSpec)) treesigMatchesSpecUptoCard

/-- THE SECOND FORM's CARD OF 'bootchainlaw05.TreesigVerifyMatchesSpec'. -/
def treesigVerifyMatchesSpecUptoCard : Claim7 := { stood := { row := treesigVerifyMatchesSpecUptoRow, standIns := [], harness := (true, "d2d3dff847cf9e375d70765c280aee46b49b05ecdc8926e97555b3f57d28b00d"), looks := false }, kinds := [], alts := [], laidByText := true, laidKinds := [.data, .data], laidTests := true, laidLooks := .later }
def TreesigVerifyMatchesSpecUptoCardSaid : Prop := Claim7.holds Tryd.pinned (.plain (OpenSpec.upto treesigVerifyMatchesSpecSpec)) treesigVerifyMatchesSpecUptoCard

/-- THE SECOND FORM's CARD OF 'bootchainlaw05.TreesigVerifiesOwn'. -/
def treesigVerifiesOwnUptoCard : Claim7 := { stood := { row := treesigVerifiesOwnUptoRow, standIns := [], harness := (true, "d2d3dff847cf9e375d70765c280aee46b49b05ecdc8926e97555b3f57d28b00d"), looks := false }, kinds := [], alts := [], laidByText := true, laidKinds := [.data, .data], laidTests := true, laidLooks := .later }
def TreesigVerifiesOwnUptoCardSaid : Prop := Claim7.holds Tryd.pinned (.plain (OpenSpec.upto treesigVerifiesOwnSpec)) treesigVerifiesOwnUptoCard

/-- THE SECOND FORM's CARD OF 'bootchainlaw05.TreesigRejectsMalformed'. -/
def treesigRejectsMalformedUptoCard : Claim7 := { stood := { row := treesigRejectsMalformedUptoRow, standIns := [], harness := (true, "d2d3dff847cf9e375d70765c280aee46b49b05ecdc8926e97555b3f57d28b00d"), looks := false }, kinds := [], alts := [], laidByText := true, laidKinds := [.data, .data], laidTests := true, laidLooks := .later }
def TreesigRejectsMalformedUptoCardSaid : Prop := Claim7.holds Tryd.pinned (.plain (OpenSpec.upto treesigRejectsMalformedSpec)) treesigRejectsMalformedUptoCard

/-- THE SECOND FORM's CARD OF 'bootchainlaw05.TreesigBindsKey'. -/
def treesigBindsKeyUptoCard : Claim7 := { stood := { row := treesigBindsKeyUptoRow, standIns := [], harness := (true, "d2d3dff847cf9e375d70765c280aee46b49b05ecdc8926e97555b3f57d28b00d"), looks := false }, kinds := [], alts := [], laidByText := true, laidKinds := [.data, .data], laidTests := true, laidLooks := .later }
def TreesigBindsKeyUptoCardSaid : Prop := Claim7.holds Tryd.pinned (.plain (OpenSpec.upto treesigBindsKeySpec)) treesigBindsKeyUptoCard

/-- THE SECOND FORM's CARD OF 'bootchainlaw05.TreesigSharesPaths'. -/
def treesigSharesPathsUptoCard : Claim7 := { stood := { row := treesigSharesPathsUptoRow, standIns := [], harness := (true, "d2d3dff847cf9e375d70765c280aee46b49b05ecdc8926e97555b3f57d28b00d"), looks := false }, kinds := [], alts := [], laidByText := true, laidKinds := [.data, .data], laidTests := true, laidLooks := .later }
def TreesigSharesPathsUptoCardSaid : Prop := Claim7.holds Tryd.pinned (.plain (OpenSpec.upto treesigSharesPathsSpec)) treesigSharesPathsUptoCard
end Rows
end Go.Proofs.YtjemfefkgfoikaaDoor
