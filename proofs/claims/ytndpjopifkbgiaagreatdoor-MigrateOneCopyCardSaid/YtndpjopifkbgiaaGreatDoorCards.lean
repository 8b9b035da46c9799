/-
  DERIVED. GIVEN WITH THE SEED: THE CARDS: each row of YtndpjopifkbgiaaGreatDoorRows.lean that lists a variable, with what it lists TIED to the program's text (the seventh form; the later family's looks); each row that meets fmt, with fmt's text TOLD by the authors' own Lean function (tested against real Go, not proved from fmt's source: count such statements apart). THE CARD IS WHAT COUNTS. Prove the row's statement (the work); the ties are given (YtndpjopifkbgiaaGreatDoorTie.lean); close each card by the builder's one call (the guide's Derived/Test/ToyasCard.lean, 'card_holds'). Laid BY PROGRAM, IN A SANDBOX (cutbox-door.mjs). By AI agents, Wed Nov 11 2026. No macro, syntax, notation, axiom, sorry.
-/
import Derived.Test.YtndpjopifkbgiaaGreatDoorRows
import GoSem.ClaimSeven
namespace Go.Proofs.YtndpjopifkbgiaaGreatDoor
namespace Rows

/-- THE TIED CARD OF 'bootchainlaw35.MigrateMatchesSpec'. -/
def migrateMatchesSpecCard : Claim7 := { stood := { row := migrateMatchesSpecRow, standIns := [], harness := (true, "e3d8d0e2cb77e6a4a976980f91a3526b047b70c83a22d769d26c3ad3ab213300"), looks := true }, kinds := [], alts := [], laidByText := true, laidKinds := [.data, .data], laidTests := true, laidLooks := .later }
def MigrateMatchesSpecCardSaid : Prop := Claim7.holds Tryz.pinned (.plain (OpenSpec.ofChange migrateMatchesSpecSpec)) migrateMatchesSpecCard

/-- THE TIED CARD OF 'bootchainlaw35.MigrateRunMatchesSpec'. -/
def migrateRunMatchesSpecCard : Claim7 := { stood := { row := migrateRunMatchesSpecRow, standIns := [], harness := (true, "e3d8d0e2cb77e6a4a976980f91a3526b047b70c83a22d769d26c3ad3ab213300"), looks := true }, kinds := [], alts := [], laidByText := true, laidKinds := [.data, .data], laidTests := true, laidLooks := .later }
def MigrateRunMatchesSpecCardSaid : Prop := Claim7.holds Tryz.pinned (.plain (OpenSpec.ofChange migrateRunMatchesSpecSpec)) migrateRunMatchesSpecCard

/-- THE TIED CARD OF 'bootchainlaw35.MigrateOneCopy'. -/
def migrateOneCopyCard : Claim7 := { stood := { row := migrateOneCopyRow, standIns := [], harness := (true, "e3d8d0e2cb77e6a4a976980f91a3526b047b70c83a22d769d26c3ad3ab213300"), looks := true }, kinds := [], alts := [], laidByText := true, laidKinds := [.data, .data], laidTests := true, laidLooks := .later }
def MigrateOneCopyCardSaid : Prop := Claim7.holds Tryz.pinned (.plain (OpenSpec.ofChange migrateOneCopySpec)) migrateOneCopyCard

/-- THE TIED CARD OF 'bootchainlaw35.MigrateMovesPayload'. -/
def migrateMovesPayloadCard : Claim7 := { stood := { row := migrateMovesPayloadRow, standIns := [], harness := (true, "e3d8d0e2cb77e6a4a976980f91a3526b047b70c83a22d769d26c3ad3ab213300"), looks := true }, kinds := [], alts := [], laidByText := true, laidKinds := [.data, .data], laidTests := true, laidLooks := .later }
def MigrateMovesPayloadCardSaid : Prop := Claim7.holds Tryz.pinned (.plain (OpenSpec.ofChange migrateMovesPayloadSpec)) migrateMovesPayloadCard

/-- THE TIED CARD OF 'bootchainlaw35.MigrateSurvivesCuts'. -/
def migrateSurvivesCutsCard : Claim7 := { stood := { row := migrateSurvivesCutsRow, standIns := [], harness := (true, "e3d8d0e2cb77e6a4a976980f91a3526b047b70c83a22d769d26c3ad3ab213300"), looks := true }, kinds := [], alts := [], laidByText := true, laidKinds := [.data, .data], laidTests := true, laidLooks := .later }
def MigrateSurvivesCutsCardSaid : Prop := Claim7.holds Tryz.pinned (.plain (OpenSpec.ofChange migrateSurvivesCutsSpec)) migrateSurvivesCutsCard

/-- THE TIED CARD OF 'bootchainlaw35.MigrateRejectsForgery'. -/
def migrateRejectsForgeryCard : Claim7 := { stood := { row := migrateRejectsForgeryRow, standIns := [], harness := (true, "e3d8d0e2cb77e6a4a976980f91a3526b047b70c83a22d769d26c3ad3ab213300"), looks := true }, kinds := [], alts := [], laidByText := true, laidKinds := [.data, .data], laidTests := true, laidLooks := .later }
def MigrateRejectsForgeryCardSaid : Prop := Claim7.holds Tryz.pinned (.plain (OpenSpec.ofChange migrateRejectsForgerySpec)) migrateRejectsForgeryCard

/-- THE SECOND FORM's CARD OF 'bootchainlaw35.MigrateMatchesSpec'. -/
def migrateMatchesSpecUptoCard : Claim7 := { stood := { row := migrateMatchesSpecUptoRow, standIns := [], harness := (true, "e3d8d0e2cb77e6a4a976980f91a3526b047b70c83a22d769d26c3ad3ab213300"), looks := true }, kinds := [], alts := [], laidByText := true, laidKinds := [.data, .data], laidTests := true, laidLooks := .later }
def MigrateMatchesSpecUptoCardSaid : Prop := Claim7.holds Tryz.pinned (.plain (OpenSpec.upto migrateMatchesSpecSpec)) migrateMatchesSpecUptoCard

/-- THE SECOND FORM's CARD OF 'bootchainlaw35.MigrateRunMatchesSpec'. -/
def migrateRunMatchesSpecUptoCard : Claim7 := { stood := { row := migrateRunMatchesSpecUptoRow, standIns := [], harness := (true, "e3d8d0e2cb77e6a4a976980f91a3526b047b70c83a22d769d26c3ad3ab213300"), looks := true }, kinds := [], alts := [], laidByText := true, laidKinds := [.data, .data], laidTests := true, laidLooks := .later }
def MigrateRunMatchesSpecUptoCardSaid : Prop := Claim7.holds Tryz.pinned (.plain (OpenSpec.upto migrateRunMatchesSpecSpec)) migrateRunMatchesSpecUptoCard

/-- THE SECOND FORM's CARD OF 'bootchainlaw35.MigrateOneCopy'. -/
def migrateOneCopyUptoCard : Claim7 := { stood := { row := migrateOneCopyUptoRow, standIns := [], harness := (true, "e3d8d0e2cb77e6a4a976980f91a3526b047b70c83a22d769d26c3ad3ab213300"), looks := true }, kinds := [], alts := [], laidByText := true, laidKinds := [.data, .data], laidTests := true, laidLooks := .later }
def MigrateOneCopyUptoCardSaid : Prop := Claim7.holds Tryz.pinned (.plain (OpenSpec.upto migrateOneCopySpec)) migrateOneCopyUptoCard

/-- THE SECOND FORM's CARD OF 'bootchainlaw35.MigrateMovesPayload'. -/
def migrateMovesPayloadUptoCard : Claim7 := { stood := { row := migrateMovesPayloadUptoRow, standIns := [], harness := (true, "e3d8d0e2cb77e6a4a976980f91a3526b047b70c83a22d769d26c3ad3ab213300"), looks := true }, kinds := [], alts := [], laidByText := true, laidKinds := [.data, .data], laidTests := true, laidLooks := .later }
def MigrateMovesPayloadUptoCardSaid : Prop := Claim7.holds Tryz.pinned (.plain (OpenSpec.upto migrateMovesPayloadSpec)) migrateMovesPayloadUptoCard

/-- THE SECOND FORM's CARD OF 'bootchainlaw35.MigrateSurvivesCuts'. -/
def migrateSurvivesCutsUptoCard : Claim7 := { stood := { row := migrateSurvivesCutsUptoRow, standIns := [], harness := (true, "e3d8d0e2cb77e6a4a976980f91a3526b047b70c83a22d769d26c3ad3ab213300"), looks := true }, kinds := [], alts := [], laidByText := true, laidKinds := [.data, .data], laidTests := true, laidLooks := .later }
def MigrateSurvivesCutsUptoCardSaid : Prop := Claim7.holds Tryz.pinned (.plain (OpenSpec.upto migrateSurvivesCutsSpec)) migrateSurvivesCutsUptoCard

/-- THE SECOND FORM's CARD OF 'bootchainlaw35.MigrateRejectsForgery'. -/
def migrateRejectsForgeryUptoCard : Claim7 := { stood := { row := migrateRejectsForgeryUptoRow, standIns := [], harness := (true, "e3d8d0e2cb77e6a4a976980f91a3526b047b70c83a22d769d26c3ad3ab213300"), looks := true }, kinds := [], alts := [], laidByText := true, laidKinds := [.data, .data], laidTests := true, laidLooks := .later }
def MigrateRejectsForgeryUptoCardSaid : Prop := Claim7.holds Tryz.pinned (.plain (OpenSpec.upto migrateRejectsForgerySpec)) migrateRejectsForgeryUptoCard
end Rows
end Go.Proofs.YtndpjopifkbgiaaGreatDoor
