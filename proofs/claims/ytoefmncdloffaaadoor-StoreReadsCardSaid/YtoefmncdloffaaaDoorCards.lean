/-
  DERIVED. GIVEN WITH THE SEED: THE CARDS: each row of YtoefmncdloffaaaDoorRows.lean that lists a variable, with what it lists TIED to the program's text (the seventh form; the later family's looks); each row that meets fmt, with fmt's text TOLD by the authors' own Lean function (tested against real Go, not proved from fmt's source: count such statements apart). THE CARD IS WHAT COUNTS. Prove the row's statement (the work); the ties are given (YtoefmncdloffaaaDoorTie.lean); close each card by the builder's one call (the guide's Derived/Test/ToyasCard.lean, 'card_holds'). Laid BY PROGRAM, IN A SANDBOX (cutbox-door.mjs). By AI agents, Wed Nov 11 2026. No macro, syntax, notation, axiom, sorry.
-/
import Derived.Test.YtoefmncdloffaaaDoorRows
import GoSem.ClaimSeven
namespace Go.Proofs.YtoefmncdloffaaaDoor
namespace Rows

/-- THE TIED CARD OF 'bootchainlaw06.BoxTampered'. -/
def boxTamperedCard : Claim7 := { stood := { row := boxTamperedRow, standIns := [], harness := (true, "c6a50b3702a620c04ec1ba167fb0b45701aeef62a5fa9ce50795d236b2ef8202"), looks := true }, kinds := [], alts := [], laidByText := true, laidKinds := [.data, .data], laidTests := true, laidLooks := .later }
def BoxTamperedCardSaid : Prop := Claim7.holds Tryd.pinned (.plain (OpenSpec.ofChange boxTamperedSpec)) boxTamperedCard

/-- THE TIED CARD OF 'bootchainlaw33.PageNew'. -/
def pageNewCard : Claim7 := { stood := { row := pageNewRow, standIns := [], harness := (true, "c6a50b3702a620c04ec1ba167fb0b45701aeef62a5fa9ce50795d236b2ef8202"), looks := true }, kinds := [], alts := [], laidByText := true, laidKinds := [.data, .data], laidTests := true, laidLooks := .later }
def PageNewCardSaid : Prop := Claim7.holds Tryd.pinned (.plain (OpenSpec.ofChange pageNewSpec)) pageNewCard

/-- THE TIED CARD OF 'bootchainlaw31.SealEncoding'. -/
def sealEncodingCard : Claim7 := { stood := { row := sealEncodingRow, standIns := [], harness := (true, "c6a50b3702a620c04ec1ba167fb0b45701aeef62a5fa9ce50795d236b2ef8202"), looks := true }, kinds := [], alts := [], laidByText := true, laidKinds := [.data, .data], laidTests := true, laidLooks := .later }
def SealEncodingCardSaid : Prop := Claim7.holds Tryd.pinned (.plain (OpenSpec.ofChange sealEncodingSpec)) sealEncodingCard

/-- THE TIED CARD OF 'bootchainlaw10.StoreGetMatchesSpec'. -/
def storeGetMatchesSpecCard : Claim7 := { stood := { row := storeGetMatchesSpecRow, standIns := [], harness := (true, "c6a50b3702a620c04ec1ba167fb0b45701aeef62a5fa9ce50795d236b2ef8202"), looks := true }, kinds := [], alts := [], laidByText := true, laidKinds := [.data, .data], laidTests := true, laidLooks := .later }
def StoreGetMatchesSpecCardSaid : Prop := Claim7.holds Tryd.pinned (.plain (OpenSpec.ofChange storeGetMatchesSpecSpec)) storeGetMatchesSpecCard

/-- THE TIED CARD OF 'bootchainlaw10.StorePutMatchesSpec'. -/
def storePutMatchesSpecCard : Claim7 := { stood := { row := storePutMatchesSpecRow, standIns := [], harness := (true, "c6a50b3702a620c04ec1ba167fb0b45701aeef62a5fa9ce50795d236b2ef8202"), looks := true }, kinds := [], alts := [], laidByText := true, laidKinds := [.data, .data], laidTests := true, laidLooks := .later }
def StorePutMatchesSpecCardSaid : Prop := Claim7.holds Tryd.pinned (.plain (OpenSpec.ofChange storePutMatchesSpecSpec)) storePutMatchesSpecCard

/-- THE TIED CARD OF 'bootchainlaw10.StoreAtomic'. -/
def storeAtomicCard : Claim7 := { stood := { row := storeAtomicRow, standIns := [], harness := (true, "c6a50b3702a620c04ec1ba167fb0b45701aeef62a5fa9ce50795d236b2ef8202"), looks := true }, kinds := [], alts := [], laidByText := true, laidKinds := [.data, .data], laidTests := true, laidLooks := .later }
def StoreAtomicCardSaid : Prop := Claim7.holds Tryd.pinned (.plain (OpenSpec.ofChange storeAtomicSpec)) storeAtomicCard

/-- THE TIED CARD OF 'bootchainlaw10.StoreIndependent'. -/
def storeIndependentCard : Claim7 := { stood := { row := storeIndependentRow, standIns := [], harness := (true, "c6a50b3702a620c04ec1ba167fb0b45701aeef62a5fa9ce50795d236b2ef8202"), looks := true }, kinds := [], alts := [], laidByText := true, laidKinds := [.data, .data], laidTests := true, laidLooks := .later }
def StoreIndependentCardSaid : Prop := Claim7.holds Tryd.pinned (.plain (OpenSpec.ofChange storeIndependentSpec)) storeIndependentCard

/-- THE TIED CARD OF 'bootchainlaw10.StoreAccesses'. -/
def storeAccessesCard : Claim7 := { stood := { row := storeAccessesRow, standIns := [], harness := (true, "c6a50b3702a620c04ec1ba167fb0b45701aeef62a5fa9ce50795d236b2ef8202"), looks := true }, kinds := [], alts := [], laidByText := true, laidKinds := [.data, .data], laidTests := true, laidLooks := .later }
def StoreAccessesCardSaid : Prop := Claim7.holds Tryd.pinned (.plain (OpenSpec.ofChange storeAccessesSpec)) storeAccessesCard

/-- THE TIED CARD OF 'bootchainlaw10.StoreReads'. -/
def storeReadsCard : Claim7 := { stood := { row := storeReadsRow, standIns := [], harness := (true, "c6a50b3702a620c04ec1ba167fb0b45701aeef62a5fa9ce50795d236b2ef8202"), looks := true }, kinds := [], alts := [], laidByText := true, laidKinds := [.data, .data], laidTests := true, laidLooks := .later }
def StoreReadsCardSaid : Prop := Claim7.holds Tryd.pinned (.plain (OpenSpec.ofChange storeReadsSpec)) storeReadsCard

/-- THE SECOND FORM's CARD OF 'bootchainlaw06.BoxTampered'. -/
def boxTamperedUptoCard : Claim7 := { stood := { row := boxTamperedUptoRow, standIns := [], harness := (true, "c6a50b3702a620c04ec1ba167fb0b45701aeef62a5fa9ce50795d236b2ef8202"), looks := true }, kinds := [], alts := [], laidByText := true, laidKinds := [.data, .data], laidTests := true, laidLooks := .later }
def BoxTamperedUptoCardSaid : Prop := Claim7.holds Tryd.pinned (.plain (OpenSpec.upto boxTamperedSpec)) boxTamperedUptoCard

/-- THE SECOND FORM's CARD OF 'bootchainlaw33.PageNew'. -/
def pageNewUptoCard : Claim7 := { stood := { row := pageNewUptoRow, standIns := [], harness := (true, "c6a50b3702a620c04ec1ba167fb0b45701aeef62a5fa9ce50795d236b2ef8202"), looks := true }, kinds := [], alts := [], laidByText := true, laidKinds := [.data, .data], laidTests := true, laidLooks := .later }
def PageNewUptoCardSaid : Prop := Claim7.holds Tryd.pinned (.plain (OpenSpec.upto pageNewSpec)) pageNewUptoCard

/-- THE SECOND FORM's CARD OF 'bootchainlaw31.SealEncoding'. -/
def sealEncodingUptoCard : Claim7 := { stood := { row := sealEncodingUptoRow, standIns := [], harness := (true, "c6a50b3702a620c04ec1ba167fb0b45701aeef62a5fa9ce50795d236b2ef8202"), looks := true }, kinds := [], alts := [], laidByText := true, laidKinds := [.data, .data], laidTests := true, laidLooks := .later }
def SealEncodingUptoCardSaid : Prop := Claim7.holds Tryd.pinned (.plain (OpenSpec.upto sealEncodingSpec)) sealEncodingUptoCard

/-- THE SECOND FORM's CARD OF 'bootchainlaw10.StoreGetMatchesSpec'. -/
def storeGetMatchesSpecUptoCard : Claim7 := { stood := { row := storeGetMatchesSpecUptoRow, standIns := [], harness := (true, "c6a50b3702a620c04ec1ba167fb0b45701aeef62a5fa9ce50795d236b2ef8202"), looks := true }, kinds := [], alts := [], laidByText := true, laidKinds := [.data, .data], laidTests := true, laidLooks := .later }
def StoreGetMatchesSpecUptoCardSaid : Prop := Claim7.holds Tryd.pinned (.plain (OpenSpec.upto storeGetMatchesSpecSpec)) storeGetMatchesSpecUptoCard

/-- THE SECOND FORM's CARD OF 'bootchainlaw10.StorePutMatchesSpec'. -/
def storePutMatchesSpecUptoCard : Claim7 := { stood := { row := storePutMatchesSpecUptoRow, standIns := [], harness := (true, "c6a50b3702a620c04ec1ba167fb0b45701aeef62a5fa9ce50795d236b2ef8202"), looks := true }, kinds := [], alts := [], laidByText := true, laidKinds := [.data, .data], laidTests := true, laidLooks := .later }
def StorePutMatchesSpecUptoCardSaid : Prop := Claim7.holds Tryd.pinned (.plain (OpenSpec.upto storePutMatchesSpecSpec)) storePutMatchesSpecUptoCard

/-- THE SECOND FORM's CARD OF 'bootchainlaw10.StoreAtomic'. -/
def storeAtomicUptoCard : Claim7 := { stood := { row := storeAtomicUptoRow, standIns := [], harness := (true, "c6a50b3702a620c04ec1ba167fb0b45701aeef62a5fa9ce50795d236b2ef8202"), looks := true }, kinds := [], alts := [], laidByText := true, laidKinds := [.data, .data], laidTests := true, laidLooks := .later }
def StoreAtomicUptoCardSaid : Prop := Claim7.holds Tryd.pinned (.plain (OpenSpec.upto storeAtomicSpec)) storeAtomicUptoCard

/-- THE SECOND FORM's CARD OF 'bootchainlaw10.StoreIndependent'. -/
def storeIndependentUptoCard : Claim7 := { stood := { row := storeIndependentUptoRow, standIns := [], harness := (true, "c6a50b3702a620c04ec1ba167fb0b45701aeef62a5fa9ce50795d236b2ef8202"), looks := true }, kinds := [], alts := [], laidByText := true, laidKinds := [.data, .data], laidTests := true, laidLooks := .later }
def StoreIndependentUptoCardSaid : Prop := Claim7.holds Tryd.pinned (.plain (OpenSpec.upto storeIndependentSpec)) storeIndependentUptoCard

/-- THE SECOND FORM's CARD OF 'bootchainlaw10.StoreAccesses'. -/
def storeAccessesUptoCard : Claim7 := { stood := { row := storeAccessesUptoRow, standIns := [], harness := (true, "c6a50b3702a620c04ec1ba167fb0b45701aeef62a5fa9ce50795d236b2ef8202"), looks := true }, kinds := [], alts := [], laidByText := true, laidKinds := [.data, .data], laidTests := true, laidLooks := .later }
def StoreAccessesUptoCardSaid : Prop := Claim7.holds Tryd.pinned (.plain (OpenSpec.upto storeAccessesSpec)) storeAccessesUptoCard

/-- THE SECOND FORM's CARD OF 'bootchainlaw10.StoreReads'. -/
def storeReadsUptoCard : Claim7 := { stood := { row := storeReadsUptoRow, standIns := [], harness := (true, "c6a50b3702a620c04ec1ba167fb0b45701aeef62a5fa9ce50795d236b2ef8202"), looks := true }, kinds := [], alts := [], laidByText := true, laidKinds := [.data, .data], laidTests := true, laidLooks := .later }
def StoreReadsUptoCardSaid : Prop := Claim7.holds Tryd.pinned (.plain (OpenSpec.upto storeReadsSpec)) storeReadsUptoCard
end Rows
end Go.Proofs.YtoefmncdloffaaaDoor
