/-
  DERIVED. GIVEN WITH THE SEED: THE CARDS: each row of YtnnecanjkogloaaDoorRows.lean that lists a variable, with what it lists TIED to the program's text (the seventh form; the later family's looks); each row that meets fmt, with fmt's text TOLD by the authors' own Lean function (tested against real Go, not proved from fmt's source: count such statements apart). THE CARD IS WHAT COUNTS. Prove the row's statement (the work); the ties are given (YtnnecanjkogloaaDoorTie.lean); close each card by the builder's one call (the guide's Derived/Test/ToyasCard.lean, 'card_holds'). Laid BY PROGRAM, IN A SANDBOX (cutbox-door.mjs). By AI agents, Wed Nov 11 2026. No macro, syntax, notation, axiom, sorry.
-/
import Derived.Test.YtnnecanjkogloaaDoorRows
import GoSem.ClaimSeven
namespace Go.Proofs.YtnnecanjkogloaaDoor
namespace Rows

/-- THE TIED CARD OF 'bootchainlaw02.ShaStreamIsPrefix'. -/
def shaStreamIsPrefixCard : Claim7 := { stood := { row := shaStreamIsPrefixRow, standIns := [], harness := (true, "3c0cb31d5299ff6dad46acba5b20aee22056ccdc5939a287ee4968791680bb36"), looks := false }, kinds := [], alts := [], laidByText := true, laidKinds := [.data, .data], laidTests := true, laidLooks := .later }
def ShaStreamIsPrefixCardSaid : Prop := Claim7.holds Tryd.pinned (.plain (OpenSpec.ofChange shaStreamIsPrefixSpec)) shaStreamIsPrefixCard

/-- THE TIED CARD OF 'bootchainlaw02.ShaLongKey'. -/
def shaLongKeyCard : Claim7 := { stood := { row := shaLongKeyRow, standIns := [], harness := (true, "3c0cb31d5299ff6dad46acba5b20aee22056ccdc5939a287ee4968791680bb36"), looks := false }, kinds := [], alts := [], laidByText := true, laidKinds := [.data, .data], laidTests := true, laidLooks := .later }
def ShaLongKeyCardSaid : Prop := Claim7.holds Tryd.pinned (.plain (OpenSpec.ofChange shaLongKeySpec)) shaLongKeyCard

/-- THE TIED CARD OF 'bootchainlaw02.ShaMatchesSpec'. -/
def shaMatchesSpecCard : Claim7 := { stood := { row := shaMatchesSpecRow, standIns := [], harness := (true, "3c0cb31d5299ff6dad46acba5b20aee22056ccdc5939a287ee4968791680bb36"), looks := false }, kinds := [], alts := [], laidByText := true, laidKinds := [.data, .data], laidTests := true, laidLooks := .later }
def ShaMatchesSpecCardSaid : Prop := Claim7.holds Tryd.pinned (.plain (OpenSpec.ofChange shaMatchesSpecSpec)) shaMatchesSpecCard

/-- THE TIED CARD OF 'bootchainlaw02.ShaDigestSeparatesTags'. -/
def shaDigestSeparatesTagsCard : Claim7 := { stood := { row := shaDigestSeparatesTagsRow, standIns := [], harness := (true, "3c0cb31d5299ff6dad46acba5b20aee22056ccdc5939a287ee4968791680bb36"), looks := false }, kinds := [], alts := [], laidByText := true, laidKinds := [.data, .data], laidTests := true, laidLooks := .later }
def ShaDigestSeparatesTagsCardSaid : Prop := Claim7.holds Tryd.pinned (.plain (OpenSpec.ofChange shaDigestSeparatesTagsSpec)) shaDigestSeparatesTagsCard

/-- THE TIED CARD OF 'bootchainlaw02.ShaDigestMatchesSpec'. -/
def shaDigestMatchesSpecCard : Claim7 := { stood := { row := shaDigestMatchesSpecRow, standIns := [], harness := (true, "3c0cb31d5299ff6dad46acba5b20aee22056ccdc5939a287ee4968791680bb36"), looks := false }, kinds := [], alts := [], laidByText := true, laidKinds := [.data, .data], laidTests := true, laidLooks := .later }
def ShaDigestMatchesSpecCardSaid : Prop := Claim7.holds Tryd.pinned (.plain (OpenSpec.ofChange shaDigestMatchesSpecSpec)) shaDigestMatchesSpecCard

/-- THE TIED CARD OF 'bootchainlaw02.ShaArgumentsUnchanged'. -/
def shaArgumentsUnchangedCard : Claim7 := { stood := { row := shaArgumentsUnchangedRow, standIns := [], harness := (true, "3c0cb31d5299ff6dad46acba5b20aee22056ccdc5939a287ee4968791680bb36"), looks := false }, kinds := [], alts := [], laidByText := true, laidKinds := [.data, .data], laidTests := true, laidLooks := .later }
def ShaArgumentsUnchangedCardSaid : Prop := Claim7.holds Tryd.pinned (.plain (OpenSpec.ofChange shaArgumentsUnchangedSpec)) shaArgumentsUnchangedCard

/-- THE TIED CARD OF 'bootchainlaw06.BoxMatches'. -/
def boxMatchesCard : Claim7 := { stood := { row := boxMatchesRow, standIns := [], harness := (true, "3c0cb31d5299ff6dad46acba5b20aee22056ccdc5939a287ee4968791680bb36"), looks := false }, kinds := [], alts := [], laidByText := true, laidKinds := [.data, .data], laidTests := true, laidLooks := .later }
def BoxMatchesCardSaid : Prop := Claim7.holds Tryd.pinned (.plain (OpenSpec.ofChange boxMatchesSpec)) boxMatchesCard

/-- THE TIED CARD OF 'bootchainlaw06.BoxRoundTrip'. -/
def boxRoundTripCard : Claim7 := { stood := { row := boxRoundTripRow, standIns := [], harness := (true, "3c0cb31d5299ff6dad46acba5b20aee22056ccdc5939a287ee4968791680bb36"), looks := false }, kinds := [], alts := [], laidByText := true, laidKinds := [.data, .data], laidTests := true, laidLooks := .later }
def BoxRoundTripCardSaid : Prop := Claim7.holds Tryd.pinned (.plain (OpenSpec.ofChange boxRoundTripSpec)) boxRoundTripCard

/-- THE TIED CARD OF 'bootchainlaw06.BoxAuthentic'. -/
def boxAuthenticCard : Claim7 := { stood := { row := boxAuthenticRow, standIns := [], harness := (true, "3c0cb31d5299ff6dad46acba5b20aee22056ccdc5939a287ee4968791680bb36"), looks := false }, kinds := [], alts := [], laidByText := true, laidKinds := [.data, .data], laidTests := true, laidLooks := .later }
def BoxAuthenticCardSaid : Prop := Claim7.holds Tryd.pinned (.plain (OpenSpec.ofChange boxAuthenticSpec)) boxAuthenticCard

/-- THE TIED CARD OF 'bootchainlaw06.BoxTampered'. -/
def boxTamperedCard : Claim7 := { stood := { row := boxTamperedRow, standIns := [], harness := (true, "3c0cb31d5299ff6dad46acba5b20aee22056ccdc5939a287ee4968791680bb36"), looks := false }, kinds := [], alts := [], laidByText := true, laidKinds := [.data, .data], laidTests := true, laidLooks := .later }
def BoxTamperedCardSaid : Prop := Claim7.holds Tryd.pinned (.plain (OpenSpec.ofChange boxTamperedSpec)) boxTamperedCard

/-- THE TIED CARD OF 'bootchainlaw06.BoxStream'. -/
def boxStreamCard : Claim7 := { stood := { row := boxStreamRow, standIns := [], harness := (true, "3c0cb31d5299ff6dad46acba5b20aee22056ccdc5939a287ee4968791680bb36"), looks := false }, kinds := [], alts := [], laidByText := true, laidKinds := [.data, .data], laidTests := true, laidLooks := .later }
def BoxStreamCardSaid : Prop := Claim7.holds Tryd.pinned (.plain (OpenSpec.ofChange boxStreamSpec)) boxStreamCard

/-- THE SECOND FORM's CARD OF 'bootchainlaw02.ShaStreamIsPrefix'. -/
def shaStreamIsPrefixUptoCard : Claim7 := { stood := { row := shaStreamIsPrefixUptoRow, standIns := [], harness := (true, "3c0cb31d5299ff6dad46acba5b20aee22056ccdc5939a287ee4968791680bb36"), looks := false }, kinds := [], alts := [], laidByText := true, laidKinds := [.data, .data], laidTests := true, laidLooks := .later }
def ShaStreamIsPrefixUptoCardSaid : Prop := Claim7.holds Tryd.pinned (.plain (OpenSpec.upto shaStreamIsPrefixSpec)) shaStreamIsPrefixUptoCard

/-- THE SECOND FORM's CARD OF 'bootchainlaw02.ShaLongKey'. -/
def shaLongKeyUptoCard : Claim7 := { stood := { row := shaLongKeyUptoRow, standIns := [], harness := (true, "3c0cb31d5299ff6dad46acba5b20aee22056ccdc5939a287ee4968791680bb36"), looks := false }, kinds := [], alts := [], laidByText := true, laidKinds := [.data, .data], laidTests := true, laidLooks := .later }
def ShaLongKeyUptoCardSaid : Prop := Claim7.holds Tryd.pinned (.plain (OpenSpec.upto shaLongKeySpec)) shaLongKeyUptoCard

/-- THE SECOND FORM's CARD OF 'bootchainlaw02.ShaMatchesSpec'. -/
def shaMatchesSpecUptoCard : Claim7 := { stood := { row := shaMatchesSpecUptoRow, standIns := [], harness := (true, "3c0cb31d5299ff6dad46acba5b20aee22056ccdc5939a287ee4968791680bb36"), looks := false }, kinds := [], alts := [], laidByText := true, laidKinds := [.data, .data], laidTests := true, laidLooks := .later }
def ShaMatchesSpecUptoCardSaid : Prop := Claim7.holds Tryd.pinned (.plain (OpenSpec.upto shaMatchesSpecSpec)) shaMatchesSpecUptoCard

/-- THE SECOND FORM's CARD OF 'bootchainlaw02.ShaDigestSeparatesTags'. -/
def shaDigestSeparatesTagsUptoCard : Claim7 := { stood := { row := shaDigestSeparatesTagsUptoRow, standIns := [], harness := (true, "3c0cb31d5299ff6dad46acba5b20aee22056ccdc5939a287ee4968791680bb36"), looks := false }, kinds := [], alts := [], laidByText := true, laidKinds := [.data, .data], laidTests := true, laidLooks := .later }
def ShaDigestSeparatesTagsUptoCardSaid : Prop := Claim7.holds Tryd.pinned (.plain (OpenSpec.upto shaDigestSeparatesTagsSpec)) shaDigestSeparatesTagsUptoCard

/-- THE SECOND FORM's CARD OF 'bootchainlaw02.ShaDigestMatchesSpec'. -/
def shaDigestMatchesSpecUptoCard : Claim7 := { stood := { row := shaDigestMatchesSpecUptoRow, standIns := [], harness := (true, "3c0cb31d5299ff6dad46acba5b20aee22056ccdc5939a287ee4968791680bb36"), looks := false }, kinds := [], alts := [], laidByText := true, laidKinds := [.data, .data], laidTests := true, laidLooks := .later }
def ShaDigestMatchesSpecUptoCardSaid : Prop := Claim7.holds Tryd.pinned (.plain (OpenSpec.upto shaDigestMatchesSpecSpec)) shaDigestMatchesSpecUptoCard

/-- THE SECOND FORM's CARD OF 'bootchainlaw02.ShaArgumentsUnchanged'. -/
def shaArgumentsUnchangedUptoCard : Claim7 := { stood := { row := shaArgumentsUnchangedUptoRow, standIns := [], harness := (true, "3c0cb31d5299ff6dad46acba5b20aee22056ccdc5939a287ee4968791680bb36"), looks := false }, kinds := [], alts := [], laidByText := true, laidKinds := [.data, .data], laidTests := true, laidLooks := .later }
def ShaArgumentsUnchangedUptoCardSaid : Prop := Claim7.holds Tryd.pinned (.plain (OpenSpec.upto shaArgumentsUnchangedSpec)) shaArgumentsUnchangedUptoCard

/-- THE SECOND FORM's CARD OF 'bootchainlaw06.BoxMatches'. -/
def boxMatchesUptoCard : Claim7 := { stood := { row := boxMatchesUptoRow, standIns := [], harness := (true, "3c0cb31d5299ff6dad46acba5b20aee22056ccdc5939a287ee4968791680bb36"), looks := false }, kinds := [], alts := [], laidByText := true, laidKinds := [.data, .data], laidTests := true, laidLooks := .later }
def BoxMatchesUptoCardSaid : Prop := Claim7.holds Tryd.pinned (.plain (OpenSpec.upto boxMatchesSpec)) boxMatchesUptoCard

/-- THE SECOND FORM's CARD OF 'bootchainlaw06.BoxRoundTrip'. -/
def boxRoundTripUptoCard : Claim7 := { stood := { row := boxRoundTripUptoRow, standIns := [], harness := (true, "3c0cb31d5299ff6dad46acba5b20aee22056ccdc5939a287ee4968791680bb36"), looks := false }, kinds := [], alts := [], laidByText := true, laidKinds := [.data, .data], laidTests := true, laidLooks := .later }
def BoxRoundTripUptoCardSaid : Prop := Claim7.holds Tryd.pinned (.plain (OpenSpec.upto boxRoundTripSpec)) boxRoundTripUptoCard

/-- THE SECOND FORM's CARD OF 'bootchainlaw06.BoxAuthentic'. -/
def boxAuthenticUptoCard : Claim7 := { stood := { row := boxAuthenticUptoRow, standIns := [], harness := (true, "3c0cb31d5299ff6dad46acba5b20aee22056ccdc5939a287ee4968791680bb36"), looks := false }, kinds := [], alts := [], laidByText := true, laidKinds := [.data, .data], laidTests := true, laidLooks := .later }
def BoxAuthenticUptoCardSaid : Prop := Claim7.holds Tryd.pinned (.plain (OpenSpec.upto boxAuthenticSpec)) boxAuthenticUptoCard

/-- THE SECOND FORM's CARD OF 'bootchainlaw06.BoxTampered'. -/
def boxTamperedUptoCard : Claim7 := { stood := { row := boxTamperedUptoRow, standIns := [], harness := (true, "3c0cb31d5299ff6dad46acba5b20aee22056ccdc5939a287ee4968791680bb36"), looks := false }, kinds := [], alts := [], laidByText := true, laidKinds := [.data, .data], laidTests := true, laidLooks := .later }
def BoxTamperedUptoCardSaid : Prop := Claim7.holds Tryd.pinned (.plain (OpenSpec.upto boxTamperedSpec)) boxTamperedUptoCard

/-- THE SECOND FORM's CARD OF 'bootchainlaw06.BoxStream'. -/
def boxStreamUptoCard : Claim7 := { stood := { row := boxStreamUptoRow, standIns := [], harness := (true, "3c0cb31d5299ff6dad46acba5b20aee22056ccdc5939a287ee4968791680bb36"), looks := false }, kinds := [], alts := [], laidByText := true, laidKinds := [.data, .data], laidTests := true, laidLooks := .later }
def BoxStreamUptoCardSaid : Prop := Claim7.holds Tryd.pinned (.plain (OpenSpec.upto boxStreamSpec)) boxStreamUptoCard
end Rows
end Go.Proofs.YtnnecanjkogloaaDoor
