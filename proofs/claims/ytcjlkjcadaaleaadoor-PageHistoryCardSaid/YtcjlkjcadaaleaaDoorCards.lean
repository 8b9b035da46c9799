/-
  DERIVED. GIVEN WITH THE SEED: THE CARDS: each row of YtcjlkjcadaaleaaDoorRows.lean that lists a variable, with what it lists TIED to the program's text (the seventh form; the later family's looks); each row that meets fmt, with fmt's text TOLD by the authors' own Lean function (tested against real Go, not proved from fmt's source: count such statements apart). THE CARD IS WHAT COUNTS. Prove the row's statement (the work); the ties are given (YtcjlkjcadaaleaaDoorTie.lean); close each card by the builder's one call (the guide's Derived/Test/ToyasCard.lean, 'card_holds'). Laid BY PROGRAM, IN A SANDBOX (cutbox-door.mjs). By AI agents, Wed Nov 11 2026. No macro, syntax, notation, axiom, sorry.
-/
import Derived.Test.YtcjlkjcadaaleaaDoorRows
import GoSem.ClaimSeven
namespace Go.Proofs.YtcjlkjcadaaleaaDoor
namespace Rows

/-- THE TIED CARD OF 'bootchainlaw06.BoxTampered'. -/
def boxTamperedCard : Claim7 := { stood := { row := boxTamperedRow, standIns := [], harness := (true, "e6c47d3692bddca532b0eb54f7cefd430922c10f18636e56e0c5bbc27441c9f1"), looks := false }, kinds := [], alts := [], laidByText := true, laidKinds := [.data, .data], laidTests := true, laidLooks := .later }
def BoxTamperedCardSaid : Prop := Claim7.holds Tryd.pinned (.plain (OpenSpec.ofChange boxTamperedSpec)) boxTamperedCard

/-- THE TIED CARD OF 'bootchainlaw31.SealMakeMatchesSpec'. -/
def sealMakeMatchesSpecCard : Claim7 := { stood := { row := sealMakeMatchesSpecRow, standIns := [], harness := (true, "e6c47d3692bddca532b0eb54f7cefd430922c10f18636e56e0c5bbc27441c9f1"), looks := false }, kinds := [], alts := [], laidByText := true, laidKinds := [.data, .data], laidTests := true, laidLooks := .later }
def SealMakeMatchesSpecCardSaid : Prop := Claim7.holds Tryd.pinned (.plain (OpenSpec.ofChange sealMakeMatchesSpecSpec)) sealMakeMatchesSpecCard

/-- THE TIED CARD OF 'bootchainlaw31.SealOpenMatchesSpec'. -/
def sealOpenMatchesSpecCard : Claim7 := { stood := { row := sealOpenMatchesSpecRow, standIns := [], harness := (true, "e6c47d3692bddca532b0eb54f7cefd430922c10f18636e56e0c5bbc27441c9f1"), looks := false }, kinds := [], alts := [], laidByText := true, laidKinds := [.data, .data], laidTests := true, laidLooks := .later }
def SealOpenMatchesSpecCardSaid : Prop := Claim7.holds Tryd.pinned (.plain (OpenSpec.ofChange sealOpenMatchesSpecSpec)) sealOpenMatchesSpecCard

/-- THE TIED CARD OF 'bootchainlaw31.SealEncoding'. -/
def sealEncodingCard : Claim7 := { stood := { row := sealEncodingRow, standIns := [], harness := (true, "e6c47d3692bddca532b0eb54f7cefd430922c10f18636e56e0c5bbc27441c9f1"), looks := false }, kinds := [], alts := [], laidByText := true, laidKinds := [.data, .data], laidTests := true, laidLooks := .later }
def SealEncodingCardSaid : Prop := Claim7.holds Tryd.pinned (.plain (OpenSpec.ofChange sealEncodingSpec)) sealEncodingCard

/-- THE TIED CARD OF 'bootchainlaw31.SealOpens'. -/
def sealOpensCard : Claim7 := { stood := { row := sealOpensRow, standIns := [], harness := (true, "e6c47d3692bddca532b0eb54f7cefd430922c10f18636e56e0c5bbc27441c9f1"), looks := false }, kinds := [], alts := [], laidByText := true, laidKinds := [.data, .data], laidTests := true, laidLooks := .later }
def SealOpensCardSaid : Prop := Claim7.holds Tryd.pinned (.plain (OpenSpec.ofChange sealOpensSpec)) sealOpensCard

/-- THE TIED CARD OF 'bootchainlaw31.SealRefuses'. -/
def sealRefusesCard : Claim7 := { stood := { row := sealRefusesRow, standIns := [], harness := (true, "e6c47d3692bddca532b0eb54f7cefd430922c10f18636e56e0c5bbc27441c9f1"), looks := false }, kinds := [], alts := [], laidByText := true, laidKinds := [.data, .data], laidTests := true, laidLooks := .later }
def SealRefusesCardSaid : Prop := Claim7.holds Tryd.pinned (.plain (OpenSpec.ofChange sealRefusesSpec)) sealRefusesCard

/-- THE TIED CARD OF 'bootchainlaw31.SealTampered'. -/
def sealTamperedCard : Claim7 := { stood := { row := sealTamperedRow, standIns := [], harness := (true, "e6c47d3692bddca532b0eb54f7cefd430922c10f18636e56e0c5bbc27441c9f1"), looks := false }, kinds := [], alts := [], laidByText := true, laidKinds := [.data, .data], laidTests := true, laidLooks := .later }
def SealTamperedCardSaid : Prop := Claim7.holds Tryd.pinned (.plain (OpenSpec.ofChange sealTamperedSpec)) sealTamperedCard

/-- THE TIED CARD OF 'bootchainlaw33.PageNew'. -/
def pageNewCard : Claim7 := { stood := { row := pageNewRow, standIns := [], harness := (true, "e6c47d3692bddca532b0eb54f7cefd430922c10f18636e56e0c5bbc27441c9f1"), looks := false }, kinds := [], alts := [], laidByText := true, laidKinds := [.data, .data], laidTests := true, laidLooks := .later }
def PageNewCardSaid : Prop := Claim7.holds Tryd.pinned (.plain (OpenSpec.ofChange pageNewSpec)) pageNewCard

/-- THE TIED CARD OF 'bootchainlaw33.PageHistory'. -/
def pageHistoryCard : Claim7 := { stood := { row := pageHistoryRow, standIns := [], harness := (true, "e6c47d3692bddca532b0eb54f7cefd430922c10f18636e56e0c5bbc27441c9f1"), looks := false }, kinds := [], alts := [], laidByText := true, laidKinds := [.data, .data], laidTests := true, laidLooks := .later }
def PageHistoryCardSaid : Prop := Claim7.holds Tryd.pinned (.plain (OpenSpec.ofChange pageHistorySpec)) pageHistoryCard

/-- THE TIED CARD OF 'bootchainlaw33.PageReplay'. -/
def pageReplayCard : Claim7 := { stood := { row := pageReplayRow, standIns := [], harness := (true, "e6c47d3692bddca532b0eb54f7cefd430922c10f18636e56e0c5bbc27441c9f1"), looks := false }, kinds := [], alts := [], laidByText := true, laidKinds := [.data, .data], laidTests := true, laidLooks := .later }
def PageReplayCardSaid : Prop := Claim7.holds Tryd.pinned (.plain (OpenSpec.ofChange pageReplaySpec)) pageReplayCard

/-- THE TIED CARD OF 'bootchainlaw33.PageAccepted'. -/
def pageAcceptedCard : Claim7 := { stood := { row := pageAcceptedRow, standIns := [], harness := (true, "e6c47d3692bddca532b0eb54f7cefd430922c10f18636e56e0c5bbc27441c9f1"), looks := false }, kinds := [], alts := [], laidByText := true, laidKinds := [.data, .data], laidTests := true, laidLooks := .later }
def PageAcceptedCardSaid : Prop := Claim7.holds Tryd.pinned (.plain (OpenSpec.ofChange pageAcceptedSpec)) pageAcceptedCard

/-- THE SECOND FORM's CARD OF 'bootchainlaw06.BoxTampered'. -/
def boxTamperedUptoCard : Claim7 := { stood := { row := boxTamperedUptoRow, standIns := [], harness := (true, "e6c47d3692bddca532b0eb54f7cefd430922c10f18636e56e0c5bbc27441c9f1"), looks := false }, kinds := [], alts := [], laidByText := true, laidKinds := [.data, .data], laidTests := true, laidLooks := .later }
def BoxTamperedUptoCardSaid : Prop := Claim7.holds Tryd.pinned (.plain (OpenSpec.upto boxTamperedSpec)) boxTamperedUptoCard

/-- THE SECOND FORM's CARD OF 'bootchainlaw31.SealMakeMatchesSpec'. -/
def sealMakeMatchesSpecUptoCard : Claim7 := { stood := { row := sealMakeMatchesSpecUptoRow, standIns := [], harness := (true, "e6c47d3692bddca532b0eb54f7cefd430922c10f18636e56e0c5bbc27441c9f1"), looks := false }, kinds := [], alts := [], laidByText := true, laidKinds := [.data, .data], laidTests := true, laidLooks := .later }
def SealMakeMatchesSpecUptoCardSaid : Prop := Claim7.holds Tryd.pinned (.plain (OpenSpec.upto sealMakeMatchesSpecSpec)) sealMakeMatchesSpecUptoCard

/-- THE SECOND FORM's CARD OF 'bootchainlaw31.SealOpenMatchesSpec'. -/
def sealOpenMatchesSpecUptoCard : Claim7 := { stood := { row := sealOpenMatchesSpecUptoRow, standIns := [], harness := (true, "e6c47d3692bddca532b0eb54f7cefd430922c10f18636e56e0c5bbc27441c9f1"), looks := false }, kinds := [], alts := [], laidByText := true, laidKinds := [.data, .data], laidTests := true, laidLooks := .later }
def SealOpenMatchesSpecUptoCardSaid : Prop := Claim7.holds Tryd.pinned (.plain (OpenSpec.upto sealOpenMatchesSpecSpec)) sealOpenMatchesSpecUptoCard

/-- THE SECOND FORM's CARD OF 'bootchainlaw31.SealEncoding'. -/
def sealEncodingUptoCard : Claim7 := { stood := { row := sealEncodingUptoRow, standIns := [], harness := (true, "e6c47d3692bddca532b0eb54f7cefd430922c10f18636e56e0c5bbc27441c9f1"), looks := false }, kinds := [], alts := [], laidByText := true, laidKinds := [.data, .data], laidTests := true, laidLooks := .later }
def SealEncodingUptoCardSaid : Prop := Claim7.holds Tryd.pinned (.plain (OpenSpec.upto sealEncodingSpec)) sealEncodingUptoCard

/-- THE SECOND FORM's CARD OF 'bootchainlaw31.SealOpens'. -/
def sealOpensUptoCard : Claim7 := { stood := { row := sealOpensUptoRow, standIns := [], harness := (true, "e6c47d3692bddca532b0eb54f7cefd430922c10f18636e56e0c5bbc27441c9f1"), looks := false }, kinds := [], alts := [], laidByText := true, laidKinds := [.data, .data], laidTests := true, laidLooks := .later }
def SealOpensUptoCardSaid : Prop := Claim7.holds Tryd.pinned (.plain (OpenSpec.upto sealOpensSpec)) sealOpensUptoCard

/-- THE SECOND FORM's CARD OF 'bootchainlaw31.SealRefuses'. -/
def sealRefusesUptoCard : Claim7 := { stood := { row := sealRefusesUptoRow, standIns := [], harness := (true, "e6c47d3692bddca532b0eb54f7cefd430922c10f18636e56e0c5bbc27441c9f1"), looks := false }, kinds := [], alts := [], laidByText := true, laidKinds := [.data, .data], laidTests := true, laidLooks := .later }
def SealRefusesUptoCardSaid : Prop := Claim7.holds Tryd.pinned (.plain (OpenSpec.upto sealRefusesSpec)) sealRefusesUptoCard

/-- THE SECOND FORM's CARD OF 'bootchainlaw31.SealTampered'. -/
def sealTamperedUptoCard : Claim7 := { stood := { row := sealTamperedUptoRow, standIns := [], harness := (true, "e6c47d3692bddca532b0eb54f7cefd430922c10f18636e56e0c5bbc27441c9f1"), looks := false }, kinds := [], alts := [], laidByText := true, laidKinds := [.data, .data], laidTests := true, laidLooks := .later }
def SealTamperedUptoCardSaid : Prop := Claim7.holds Tryd.pinned (.plain (OpenSpec.upto sealTamperedSpec)) sealTamperedUptoCard

/-- THE SECOND FORM's CARD OF 'bootchainlaw33.PageNew'. -/
def pageNewUptoCard : Claim7 := { stood := { row := pageNewUptoRow, standIns := [], harness := (true, "e6c47d3692bddca532b0eb54f7cefd430922c10f18636e56e0c5bbc27441c9f1"), looks := false }, kinds := [], alts := [], laidByText := true, laidKinds := [.data, .data], laidTests := true, laidLooks := .later }
def PageNewUptoCardSaid : Prop := Claim7.holds Tryd.pinned (.plain (OpenSpec.upto pageNewSpec)) pageNewUptoCard

/-- THE SECOND FORM's CARD OF 'bootchainlaw33.PageHistory'. -/
def pageHistoryUptoCard : Claim7 := { stood := { row := pageHistoryUptoRow, standIns := [], harness := (true, "e6c47d3692bddca532b0eb54f7cefd430922c10f18636e56e0c5bbc27441c9f1"), looks := false }, kinds := [], alts := [], laidByText := true, laidKinds := [.data, .data], laidTests := true, laidLooks := .later }
def PageHistoryUptoCardSaid : Prop := Claim7.holds Tryd.pinned (.plain (OpenSpec.upto pageHistorySpec)) pageHistoryUptoCard

/-- THE SECOND FORM's CARD OF 'bootchainlaw33.PageReplay'. -/
def pageReplayUptoCard : Claim7 := { stood := { row := pageReplayUptoRow, standIns := [], harness := (true, "e6c47d3692bddca532b0eb54f7cefd430922c10f18636e56e0c5bbc27441c9f1"), looks := false }, kinds := [], alts := [], laidByText := true, laidKinds := [.data, .data], laidTests := true, laidLooks := .later }
def PageReplayUptoCardSaid : Prop := Claim7.holds Tryd.pinned (.plain (OpenSpec.upto pageReplaySpec)) pageReplayUptoCard

/-- THE SECOND FORM's CARD OF 'bootchainlaw33.PageAccepted'. -/
def pageAcceptedUptoCard : Claim7 := { stood := { row := pageAcceptedUptoRow, standIns := [], harness := (true, "e6c47d3692bddca532b0eb54f7cefd430922c10f18636e56e0c5bbc27441c9f1"), looks := false }, kinds := [], alts := [], laidByText := true, laidKinds := [.data, .data], laidTests := true, laidLooks := .later }
def PageAcceptedUptoCardSaid : Prop := Claim7.holds Tryd.pinned (.plain (OpenSpec.upto pageAcceptedSpec)) pageAcceptedUptoCard
end Rows
end Go.Proofs.YtcjlkjcadaaleaaDoor
