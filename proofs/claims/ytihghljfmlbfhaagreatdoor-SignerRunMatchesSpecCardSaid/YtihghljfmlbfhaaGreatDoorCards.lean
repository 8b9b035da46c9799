/-
  DERIVED. GIVEN WITH THE SEED: THE CARDS: each row of YtihghljfmlbfhaaGreatDoorRows.lean that lists a variable, with what it lists TIED to the program's text (the seventh form; the later family's looks); each row that meets fmt, with fmt's text TOLD by the authors' own Lean function (tested against real Go, not proved from fmt's source: count such statements apart). THE CARD IS WHAT COUNTS. Prove the row's statement (the work); the ties are given (YtihghljfmlbfhaaGreatDoorTie.lean); close each card by the builder's one call (the guide's Derived/Test/ToyasCard.lean, 'card_holds'). Laid BY PROGRAM, IN A SANDBOX (cutbox-door.mjs). By AI agents, Wed Nov 11 2026. No macro, syntax, notation, axiom, sorry.
-/
import Derived.Test.YtihghljfmlbfhaaGreatDoorRows
import GoSem.ClaimSeven
namespace Go.Proofs.YtihghljfmlbfhaaGreatDoor
namespace Rows

/-- THE TIED CARD OF 'bootchainlaw26.SignerMatchesSpec'. -/
def signerMatchesSpecCard : Claim7 := { stood := { row := signerMatchesSpecRow, standIns := [], harness := (true, "8d5ff491a8b486287cdeac1649d1308feadb2fb29fd3080fe2ffdb491fef7467"), looks := true }, kinds := [], alts := [], laidByText := true, laidKinds := [.data, .data], laidTests := true, laidLooks := .later }
def SignerMatchesSpecCardSaid : Prop := Claim7.holds Tryz.pinned (.plain (OpenSpec.ofChange signerMatchesSpecSpec)) signerMatchesSpecCard

/-- THE TIED CARD OF 'bootchainlaw26.SignerRunMatchesSpec'. -/
def signerRunMatchesSpecCard : Claim7 := { stood := { row := signerRunMatchesSpecRow, standIns := [], harness := (true, "8d5ff491a8b486287cdeac1649d1308feadb2fb29fd3080fe2ffdb491fef7467"), looks := true }, kinds := [], alts := [], laidByText := true, laidKinds := [.data, .data], laidTests := true, laidLooks := .later }
def SignerRunMatchesSpecCardSaid : Prop := Claim7.holds Tryz.pinned (.plain (OpenSpec.ofChange signerRunMatchesSpecSpec)) signerRunMatchesSpecCard

/-- THE SECOND FORM's CARD OF 'bootchainlaw26.SignerMatchesSpec'. -/
def signerMatchesSpecUptoCard : Claim7 := { stood := { row := signerMatchesSpecUptoRow, standIns := [], harness := (true, "8d5ff491a8b486287cdeac1649d1308feadb2fb29fd3080fe2ffdb491fef7467"), looks := true }, kinds := [], alts := [], laidByText := true, laidKinds := [.data, .data], laidTests := true, laidLooks := .later }
def SignerMatchesSpecUptoCardSaid : Prop := Claim7.holds Tryz.pinned (.plain (OpenSpec.upto signerMatchesSpecSpec)) signerMatchesSpecUptoCard

/-- THE SECOND FORM's CARD OF 'bootchainlaw26.SignerRunMatchesSpec'. -/
def signerRunMatchesSpecUptoCard : Claim7 := { stood := { row := signerRunMatchesSpecUptoRow, standIns := [], harness := (true, "8d5ff491a8b486287cdeac1649d1308feadb2fb29fd3080fe2ffdb491fef7467"), looks := true }, kinds := [], alts := [], laidByText := true, laidKinds := [.data, .data], laidTests := true, laidLooks := .later }
def SignerRunMatchesSpecUptoCardSaid : Prop := Claim7.holds Tryz.pinned (.plain (OpenSpec.upto signerRunMatchesSpecSpec)) signerRunMatchesSpecUptoCard
end Rows
end Go.Proofs.YtihghljfmlbfhaaGreatDoor
