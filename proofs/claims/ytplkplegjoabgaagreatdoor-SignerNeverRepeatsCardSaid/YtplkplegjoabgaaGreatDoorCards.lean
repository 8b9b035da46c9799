/-
  DERIVED. GIVEN WITH THE SEED: THE CARDS: each row of YtplkplegjoabgaaGreatDoorRows.lean that lists a variable, with what it lists TIED to the program's text (the seventh form; the later family's looks); each row that meets fmt, with fmt's text TOLD by the authors' own Lean function (tested against real Go, not proved from fmt's source: count such statements apart). THE CARD IS WHAT COUNTS. Prove the row's statement (the work); the ties are given (YtplkplegjoabgaaGreatDoorTie.lean); close each card by the builder's one call (the guide's Derived/Test/ToyasCard.lean, 'card_holds'). Laid BY PROGRAM, IN A SANDBOX (cutbox-door.mjs). By AI agents, Wed Nov 11 2026. No macro, syntax, notation, axiom, sorry.
-/
import Derived.Test.YtplkplegjoabgaaGreatDoorRows
import GoSem.ClaimSeven
namespace Go.Proofs.YtplkplegjoabgaaGreatDoor
namespace Rows

/-- THE TIED CARD OF 'bootchainlaw26.SignerMatchesSpec'. -/
def signerMatchesSpecCard : Claim7 := { stood := { row := signerMatchesSpecRow, standIns := [], harness := (true, "b051a74769d42172aec164f31e758c691fa44031398859cbf26989c5ac1723a9"), looks := true }, kinds := [], alts := [], laidByText := true, laidKinds := [.data, .data], laidTests := true, laidLooks := .later }
def SignerMatchesSpecCardSaid : Prop := Claim7.holds Tryz.pinned (.plain (OpenSpec.ofChange signerMatchesSpecSpec)) signerMatchesSpecCard

/-- THE TIED CARD OF 'bootchainlaw26.SignerNeverRepeats'. -/
def signerNeverRepeatsCard : Claim7 := { stood := { row := signerNeverRepeatsRow, standIns := [], harness := (true, "b051a74769d42172aec164f31e758c691fa44031398859cbf26989c5ac1723a9"), looks := true }, kinds := [], alts := [], laidByText := true, laidKinds := [.data, .data], laidTests := true, laidLooks := .later }
def SignerNeverRepeatsCardSaid : Prop := Claim7.holds Tryz.pinned (.plain (OpenSpec.ofChange signerNeverRepeatsSpec)) signerNeverRepeatsCard

/-- THE TIED CARD OF 'bootchainlaw26.SignerUsesAllKeys'. -/
def signerUsesAllKeysCard : Claim7 := { stood := { row := signerUsesAllKeysRow, standIns := [], harness := (true, "b051a74769d42172aec164f31e758c691fa44031398859cbf26989c5ac1723a9"), looks := true }, kinds := [], alts := [], laidByText := true, laidKinds := [.data, .data], laidTests := true, laidLooks := .later }
def SignerUsesAllKeysCardSaid : Prop := Claim7.holds Tryz.pinned (.plain (OpenSpec.ofChange signerUsesAllKeysSpec)) signerUsesAllKeysCard

/-- THE TIED CARD OF 'bootchainlaw26.SignerRaisesFirst'. -/
def signerRaisesFirstCard : Claim7 := { stood := { row := signerRaisesFirstRow, standIns := [], harness := (true, "b051a74769d42172aec164f31e758c691fa44031398859cbf26989c5ac1723a9"), looks := true }, kinds := [], alts := [], laidByText := true, laidKinds := [.data, .data], laidTests := true, laidLooks := .later }
def SignerRaisesFirstCardSaid : Prop := Claim7.holds Tryz.pinned (.plain (OpenSpec.ofChange signerRaisesFirstSpec)) signerRaisesFirstCard

/-- THE TIED CARD OF 'bootchainlaw24.QuorumApprove'. -/
def quorumApproveCard : Claim7 := { stood := { row := quorumApproveRow, standIns := [], harness := (true, "b051a74769d42172aec164f31e758c691fa44031398859cbf26989c5ac1723a9"), looks := true }, kinds := [], alts := [], laidByText := true, laidKinds := [.data, .data], laidTests := true, laidLooks := .later }
def QuorumApproveCardSaid : Prop := Claim7.holds Tryz.pinned (.plain (OpenSpec.ofChange quorumApproveSpec)) quorumApproveCard

/-- THE TIED CARD OF 'bootchainlaw26.SignerRunMatchesSpec'. -/
def signerRunMatchesSpecCard : Claim7 := { stood := { row := signerRunMatchesSpecRow, standIns := [], harness := (true, "b051a74769d42172aec164f31e758c691fa44031398859cbf26989c5ac1723a9"), looks := true }, kinds := [], alts := [], laidByText := true, laidKinds := [.data, .data], laidTests := true, laidLooks := .later }
def SignerRunMatchesSpecCardSaid : Prop := Claim7.holds Tryz.pinned (.plain (OpenSpec.ofChange signerRunMatchesSpecSpec)) signerRunMatchesSpecCard

/-- THE SECOND FORM's CARD OF 'bootchainlaw26.SignerMatchesSpec'. -/
def signerMatchesSpecUptoCard : Claim7 := { stood := { row := signerMatchesSpecUptoRow, standIns := [], harness := (true, "b051a74769d42172aec164f31e758c691fa44031398859cbf26989c5ac1723a9"), looks := true }, kinds := [], alts := [], laidByText := true, laidKinds := [.data, .data], laidTests := true, laidLooks := .later }
def SignerMatchesSpecUptoCardSaid : Prop := Claim7.holds Tryz.pinned (.plain (OpenSpec.upto signerMatchesSpecSpec)) signerMatchesSpecUptoCard

/-- THE SECOND FORM's CARD OF 'bootchainlaw26.SignerNeverRepeats'. -/
def signerNeverRepeatsUptoCard : Claim7 := { stood := { row := signerNeverRepeatsUptoRow, standIns := [], harness := (true, "b051a74769d42172aec164f31e758c691fa44031398859cbf26989c5ac1723a9"), looks := true }, kinds := [], alts := [], laidByText := true, laidKinds := [.data, .data], laidTests := true, laidLooks := .later }
def SignerNeverRepeatsUptoCardSaid : Prop := Claim7.holds Tryz.pinned (.plain (OpenSpec.upto signerNeverRepeatsSpec)) signerNeverRepeatsUptoCard

/-- THE SECOND FORM's CARD OF 'bootchainlaw26.SignerUsesAllKeys'. -/
def signerUsesAllKeysUptoCard : Claim7 := { stood := { row := signerUsesAllKeysUptoRow, standIns := [], harness := (true, "b051a74769d42172aec164f31e758c691fa44031398859cbf26989c5ac1723a9"), looks := true }, kinds := [], alts := [], laidByText := true, laidKinds := [.data, .data], laidTests := true, laidLooks := .later }
def SignerUsesAllKeysUptoCardSaid : Prop := Claim7.holds Tryz.pinned (.plain (OpenSpec.upto signerUsesAllKeysSpec)) signerUsesAllKeysUptoCard

/-- THE SECOND FORM's CARD OF 'bootchainlaw26.SignerRaisesFirst'. -/
def signerRaisesFirstUptoCard : Claim7 := { stood := { row := signerRaisesFirstUptoRow, standIns := [], harness := (true, "b051a74769d42172aec164f31e758c691fa44031398859cbf26989c5ac1723a9"), looks := true }, kinds := [], alts := [], laidByText := true, laidKinds := [.data, .data], laidTests := true, laidLooks := .later }
def SignerRaisesFirstUptoCardSaid : Prop := Claim7.holds Tryz.pinned (.plain (OpenSpec.upto signerRaisesFirstSpec)) signerRaisesFirstUptoCard

/-- THE SECOND FORM's CARD OF 'bootchainlaw24.QuorumApprove'. -/
def quorumApproveUptoCard : Claim7 := { stood := { row := quorumApproveUptoRow, standIns := [], harness := (true, "b051a74769d42172aec164f31e758c691fa44031398859cbf26989c5ac1723a9"), looks := true }, kinds := [], alts := [], laidByText := true, laidKinds := [.data, .data], laidTests := true, laidLooks := .later }
def QuorumApproveUptoCardSaid : Prop := Claim7.holds Tryz.pinned (.plain (OpenSpec.upto quorumApproveSpec)) quorumApproveUptoCard

/-- THE SECOND FORM's CARD OF 'bootchainlaw26.SignerRunMatchesSpec'. -/
def signerRunMatchesSpecUptoCard : Claim7 := { stood := { row := signerRunMatchesSpecUptoRow, standIns := [], harness := (true, "b051a74769d42172aec164f31e758c691fa44031398859cbf26989c5ac1723a9"), looks := true }, kinds := [], alts := [], laidByText := true, laidKinds := [.data, .data], laidTests := true, laidLooks := .later }
def SignerRunMatchesSpecUptoCardSaid : Prop := Claim7.holds Tryz.pinned (.plain (OpenSpec.upto signerRunMatchesSpecSpec)) signerRunMatchesSpecUptoCard
end Rows
end Go.Proofs.YtplkplegjoabgaaGreatDoor
