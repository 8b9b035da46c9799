/-
  DERIVED. GIVEN WITH THE SEED: THE CARDS: each row of YtgndblhpfjkfhaaDoorRows.lean that lists a variable, with what it lists TIED to the program's text (the seventh form; the later family's looks); each row that meets fmt, with fmt's text TOLD by the authors' own Lean function (tested against real Go, not proved from fmt's source: count such statements apart). THE CARD IS WHAT COUNTS. Prove the row's statement (the work); the ties are given (YtgndblhpfjkfhaaDoorTie.lean); close each card by the builder's one call (the guide's Derived/Test/ToyasCard.lean, 'card_holds'). Laid BY PROGRAM, IN A SANDBOX (cutbox-door.mjs). By AI agents, Wed Nov 11 2026. No macro, syntax, notation, axiom, sorry.
-/
import Derived.Test.YtgndblhpfjkfhaaDoorRows
import GoSem.ClaimSeven
namespace Go.Proofs.YtgndblhpfjkfhaaDoor
namespace Rows

/-- THE TIED CARD OF 'bootchainlaw06.BoxTampered'. -/
def boxTamperedCard : Claim7 := { stood := { row := boxTamperedRow, standIns := [], harness := (true, "1e1223690aeb3e70ae9791e47f343b4189a97cbe56e50109db43140856f6dd40"), looks := false }, kinds := [], alts := [], laidByText := true, laidKinds := [.data, .data], laidTests := true, laidLooks := .later }
def BoxTamperedCardSaid : Prop := Claim7.holds Tryd.pinned (.plain (OpenSpec.ofChange boxTamperedSpec)) boxTamperedCard

/-- THE TIED CARD OF 'bootchainlaw31.SealMakeMatchesSpec'. -/
def sealMakeMatchesSpecCard : Claim7 := { stood := { row := sealMakeMatchesSpecRow, standIns := [], harness := (true, "1e1223690aeb3e70ae9791e47f343b4189a97cbe56e50109db43140856f6dd40"), looks := false }, kinds := [], alts := [], laidByText := true, laidKinds := [.data, .data], laidTests := true, laidLooks := .later }
def SealMakeMatchesSpecCardSaid : Prop := Claim7.holds Tryd.pinned (.plain (OpenSpec.ofChange sealMakeMatchesSpecSpec)) sealMakeMatchesSpecCard

/-- THE TIED CARD OF 'bootchainlaw31.SealOpenMatchesSpec'. -/
def sealOpenMatchesSpecCard : Claim7 := { stood := { row := sealOpenMatchesSpecRow, standIns := [], harness := (true, "1e1223690aeb3e70ae9791e47f343b4189a97cbe56e50109db43140856f6dd40"), looks := false }, kinds := [], alts := [], laidByText := true, laidKinds := [.data, .data], laidTests := true, laidLooks := .later }
def SealOpenMatchesSpecCardSaid : Prop := Claim7.holds Tryd.pinned (.plain (OpenSpec.ofChange sealOpenMatchesSpecSpec)) sealOpenMatchesSpecCard

/-- THE TIED CARD OF 'bootchainlaw31.SealEncoding'. -/
def sealEncodingCard : Claim7 := { stood := { row := sealEncodingRow, standIns := [], harness := (true, "1e1223690aeb3e70ae9791e47f343b4189a97cbe56e50109db43140856f6dd40"), looks := false }, kinds := [], alts := [], laidByText := true, laidKinds := [.data, .data], laidTests := true, laidLooks := .later }
def SealEncodingCardSaid : Prop := Claim7.holds Tryd.pinned (.plain (OpenSpec.ofChange sealEncodingSpec)) sealEncodingCard

/-- THE TIED CARD OF 'bootchainlaw24.QuorumCheck'. -/
def quorumCheckCard : Claim7 := { stood := { row := quorumCheckRow, standIns := [], harness := (true, "1e1223690aeb3e70ae9791e47f343b4189a97cbe56e50109db43140856f6dd40"), looks := false }, kinds := [], alts := [], laidByText := true, laidKinds := [.data, .data], laidTests := true, laidLooks := .later }
def QuorumCheckCardSaid : Prop := Claim7.holds Tryd.pinned (.plain (OpenSpec.ofChange quorumCheckSpec)) quorumCheckCard

/-- THE TIED CARD OF 'bootchainlaw24.QuorumThreshold'. -/
def quorumThresholdCard : Claim7 := { stood := { row := quorumThresholdRow, standIns := [], harness := (true, "1e1223690aeb3e70ae9791e47f343b4189a97cbe56e50109db43140856f6dd40"), looks := false }, kinds := [], alts := [], laidByText := true, laidKinds := [.data, .data], laidTests := true, laidLooks := .later }
def QuorumThresholdCardSaid : Prop := Claim7.holds Tryd.pinned (.plain (OpenSpec.ofChange quorumThresholdSpec)) quorumThresholdCard

/-- THE TIED CARD OF 'bootchainlaw24.QuorumRotation'. -/
def quorumRotationCard : Claim7 := { stood := { row := quorumRotationRow, standIns := [], harness := (true, "1e1223690aeb3e70ae9791e47f343b4189a97cbe56e50109db43140856f6dd40"), looks := false }, kinds := [], alts := [], laidByText := true, laidKinds := [.data, .data], laidTests := true, laidLooks := .later }
def QuorumRotationCardSaid : Prop := Claim7.holds Tryd.pinned (.plain (OpenSpec.ofChange quorumRotationSpec)) quorumRotationCard

/-- THE TIED CARD OF 'bootchainlaw24.QuorumBundle'. -/
def quorumBundleCard : Claim7 := { stood := { row := quorumBundleRow, standIns := [], harness := (true, "1e1223690aeb3e70ae9791e47f343b4189a97cbe56e50109db43140856f6dd40"), looks := false }, kinds := [], alts := [], laidByText := true, laidKinds := [.data, .data], laidTests := true, laidLooks := .later }
def QuorumBundleCardSaid : Prop := Claim7.holds Tryd.pinned (.plain (OpenSpec.ofChange quorumBundleSpec)) quorumBundleCard

/-- THE TIED CARD OF 'bootchainlaw24.QuorumForged'. -/
def quorumForgedCard : Claim7 := { stood := { row := quorumForgedRow, standIns := [], harness := (true, "1e1223690aeb3e70ae9791e47f343b4189a97cbe56e50109db43140856f6dd40"), looks := false }, kinds := [], alts := [], laidByText := true, laidKinds := [.data, .data], laidTests := true, laidLooks := .later }
def QuorumForgedCardSaid : Prop := Claim7.holds Tryd.pinned (.plain (OpenSpec.ofChange quorumForgedSpec)) quorumForgedCard

/-- THE SECOND FORM's CARD OF 'bootchainlaw06.BoxTampered'. -/
def boxTamperedUptoCard : Claim7 := { stood := { row := boxTamperedUptoRow, standIns := [], harness := (true, "1e1223690aeb3e70ae9791e47f343b4189a97cbe56e50109db43140856f6dd40"), looks := false }, kinds := [], alts := [], laidByText := true, laidKinds := [.data, .data], laidTests := true, laidLooks := .later }
def BoxTamperedUptoCardSaid : Prop := Claim7.holds Tryd.pinned (.plain (OpenSpec.upto boxTamperedSpec)) boxTamperedUptoCard

/-- THE SECOND FORM's CARD OF 'bootchainlaw31.SealMakeMatchesSpec'. -/
def sealMakeMatchesSpecUptoCard : Claim7 := { stood := { row := sealMakeMatchesSpecUptoRow, standIns := [], harness := (true, "1e1223690aeb3e70ae9791e47f343b4189a97cbe56e50109db43140856f6dd40"), looks := false }, kinds := [], alts := [], laidByText := true, laidKinds := [.data, .data], laidTests := true, laidLooks := .later }
def SealMakeMatchesSpecUptoCardSaid : Prop := Claim7.holds Tryd.pinned (.plain (OpenSpec.upto sealMakeMatchesSpecSpec)) sealMakeMatchesSpecUptoCard

/-- THE SECOND FORM's CARD OF 'bootchainlaw31.SealOpenMatchesSpec'. -/
def sealOpenMatchesSpecUptoCard : Claim7 := { stood := { row := sealOpenMatchesSpecUptoRow, standIns := [], harness := (true, "1e1223690aeb3e70ae9791e47f343b4189a97cbe56e50109db43140856f6dd40"), looks := false }, kinds := [], alts := [], laidByText := true, laidKinds := [.data, .data], laidTests := true, laidLooks := .later }
def SealOpenMatchesSpecUptoCardSaid : Prop := Claim7.holds Tryd.pinned (.plain (OpenSpec.upto sealOpenMatchesSpecSpec)) sealOpenMatchesSpecUptoCard

/-- THE SECOND FORM's CARD OF 'bootchainlaw31.SealEncoding'. -/
def sealEncodingUptoCard : Claim7 := { stood := { row := sealEncodingUptoRow, standIns := [], harness := (true, "1e1223690aeb3e70ae9791e47f343b4189a97cbe56e50109db43140856f6dd40"), looks := false }, kinds := [], alts := [], laidByText := true, laidKinds := [.data, .data], laidTests := true, laidLooks := .later }
def SealEncodingUptoCardSaid : Prop := Claim7.holds Tryd.pinned (.plain (OpenSpec.upto sealEncodingSpec)) sealEncodingUptoCard

/-- THE SECOND FORM's CARD OF 'bootchainlaw24.QuorumCheck'. -/
def quorumCheckUptoCard : Claim7 := { stood := { row := quorumCheckUptoRow, standIns := [], harness := (true, "1e1223690aeb3e70ae9791e47f343b4189a97cbe56e50109db43140856f6dd40"), looks := false }, kinds := [], alts := [], laidByText := true, laidKinds := [.data, .data], laidTests := true, laidLooks := .later }
def QuorumCheckUptoCardSaid : Prop := Claim7.holds Tryd.pinned (.plain (OpenSpec.upto quorumCheckSpec)) quorumCheckUptoCard

/-- THE SECOND FORM's CARD OF 'bootchainlaw24.QuorumThreshold'. -/
def quorumThresholdUptoCard : Claim7 := { stood := { row := quorumThresholdUptoRow, standIns := [], harness := (true, "1e1223690aeb3e70ae9791e47f343b4189a97cbe56e50109db43140856f6dd40"), looks := false }, kinds := [], alts := [], laidByText := true, laidKinds := [.data, .data], laidTests := true, laidLooks := .later }
def QuorumThresholdUptoCardSaid : Prop := Claim7.holds Tryd.pinned (.plain (OpenSpec.upto quorumThresholdSpec)) quorumThresholdUptoCard

/-- THE SECOND FORM's CARD OF 'bootchainlaw24.QuorumRotation'. -/
def quorumRotationUptoCard : Claim7 := { stood := { row := quorumRotationUptoRow, standIns := [], harness := (true, "1e1223690aeb3e70ae9791e47f343b4189a97cbe56e50109db43140856f6dd40"), looks := false }, kinds := [], alts := [], laidByText := true, laidKinds := [.data, .data], laidTests := true, laidLooks := .later }
def QuorumRotationUptoCardSaid : Prop := Claim7.holds Tryd.pinned (.plain (OpenSpec.upto quorumRotationSpec)) quorumRotationUptoCard

/-- THE SECOND FORM's CARD OF 'bootchainlaw24.QuorumBundle'. -/
def quorumBundleUptoCard : Claim7 := { stood := { row := quorumBundleUptoRow, standIns := [], harness := (true, "1e1223690aeb3e70ae9791e47f343b4189a97cbe56e50109db43140856f6dd40"), looks := false }, kinds := [], alts := [], laidByText := true, laidKinds := [.data, .data], laidTests := true, laidLooks := .later }
def QuorumBundleUptoCardSaid : Prop := Claim7.holds Tryd.pinned (.plain (OpenSpec.upto quorumBundleSpec)) quorumBundleUptoCard

/-- THE SECOND FORM's CARD OF 'bootchainlaw24.QuorumForged'. -/
def quorumForgedUptoCard : Claim7 := { stood := { row := quorumForgedUptoRow, standIns := [], harness := (true, "1e1223690aeb3e70ae9791e47f343b4189a97cbe56e50109db43140856f6dd40"), looks := false }, kinds := [], alts := [], laidByText := true, laidKinds := [.data, .data], laidTests := true, laidLooks := .later }
def QuorumForgedUptoCardSaid : Prop := Claim7.holds Tryd.pinned (.plain (OpenSpec.upto quorumForgedSpec)) quorumForgedUptoCard
end Rows
end Go.Proofs.YtgndblhpfjkfhaaDoor
