/-
  DERIVED. GIVEN WITH THE SEED: THE CARDS: each row of YtihghljfmlbfhaaDoorRows.lean that lists a variable, with what it lists TIED to the program's text (the seventh form; the later family's looks); each row that meets fmt, with fmt's text TOLD by the authors' own Lean function (tested against real Go, not proved from fmt's source: count such statements apart). THE CARD IS WHAT COUNTS. Prove the row's statement (the work); the ties are given (YtihghljfmlbfhaaDoorTie.lean); close each card by the builder's one call (the guide's Derived/Test/ToyasCard.lean, 'card_holds'). Laid BY PROGRAM, IN A SANDBOX (cutbox-door.mjs). By AI agents, Wed Nov 11 2026. No macro, syntax, notation, axiom, sorry.
-/
import Derived.Test.YtihghljfmlbfhaaDoorRows
import GoSem.ClaimSeven
namespace Go.Proofs.YtihghljfmlbfhaaDoor
namespace Rows

/-- THE TIED CARD OF 'bootchaintop.TopKeysOnce'. -/
def topKeysOnceCard : Claim7 := { stood := { row := topKeysOnceRow, standIns := [], harness := (true, "76e3fbdfc140dc8a522974d80b5f36f4df8c4a50f1762884313cebbb31106f4f"), looks := true }, kinds := [], alts := [], laidByText := true, laidKinds := [.data, .data], laidTests := true, laidLooks := .later }
def TopKeysOnceCardSaid : Prop := Claim7.holds Tryd.pinned (.plain (OpenSpec.ofChange topKeysOnceSpec)) topKeysOnceCard

/-- THE SECOND FORM's CARD OF 'bootchaintop.TopKeysOnce'. -/
def topKeysOnceUptoCard : Claim7 := { stood := { row := topKeysOnceUptoRow, standIns := [], harness := (true, "76e3fbdfc140dc8a522974d80b5f36f4df8c4a50f1762884313cebbb31106f4f"), looks := true }, kinds := [], alts := [], laidByText := true, laidKinds := [.data, .data], laidTests := true, laidLooks := .later }
def TopKeysOnceUptoCardSaid : Prop := Claim7.holds Tryd.pinned (.plain (OpenSpec.upto topKeysOnceSpec)) topKeysOnceUptoCard
end Rows
end Go.Proofs.YtihghljfmlbfhaaDoor
