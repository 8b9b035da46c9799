/-
  NARROWER THAN 'FOR EVERY INPUT', by the rows' own cells (each row's printed sentence says how): ShaStreamIsPrefix: laid · ShaLongKey: laid · ShaMatchesSpec: laid · ShaDigestSeparatesTags: laid · ShaDigestMatchesSpec: laid · ShaArgumentsUnchanged: laid · BoxMatches: laid · BoxRoundTrip: laid · BoxAuthentic: laid · BoxTampered: laid · BoxStream: laid.
  DERIVED. THE GIVEN ROWS OF THIS SEAT. 11 by the template 'for every input the law returns true; each argument reads behind the call as it read before'; 0 by the template 'total and deterministic' (their statements: YtnnecanjkogloaaDoorTotals.lean).
  GIVEN WITH THE SEED: the statements are not yours to turn. If you find one false, say at which input.
  Laid BY PROGRAM, IN A SANDBOX (cutbox-rows.mjs): the forced cells as the released guide's own fill.sh prints them over the translation 8a1ea61b1064be16… (all of the seat's roots in one cut). By AI agents, Wed Nov 11 2026. No macro, syntax, notation, axiom, sorry.
-/
import Derived.Test.YtnnecanjkogloaaDoorChecked
import GoSem.Claim
import GoSem.ClaimJoined
import GoSem.ClaimMapViews
import Derived.JoinedTies
import Derived.KernelRfl
namespace Go.Proofs.YtnnecanjkogloaaDoor
/- THE CELL 'sum', in the pinned program and in every row, IS THE sha256 OF THE DUMP (.gsa) THAT YtnnecanjkogloaaDoorProg.lean LOADS. Nothing in Lean hashes anything: it is a label: what it is worth is what the hold of that sum in a sandbox is worth. -/
noncomputable def Tryd.pinned : Pinned := { name := "ytnnecanjkogloaadoor", sum := "8a1ea61b1064be166f8a0c6439584cc0b1cf2d05d74afdc1e652dce83cdc6d09", checked := Tryd.checked }
namespace Rows
def none {H : Type} : Left H := { results := [], args := [] }

/- WHAT THE LISTED PACKAGE-LEVEL VARIABLES READ AS WHEN THE CALL BEGINS. Each datum BY PROGRAM (the guide's laid-datum.mjs) off the statement by which the dump's own 'gosem.cut.vars' lays the variable. In a bare row this is a premise. The card (YtnnecanjkogloaaDoorCards.lean) ties it to the program's text. -/
def laid_bootchain_sha_constants {H : Type} : DataW H := .agg [.lit (.int .u32 1116352408), .lit (.int .u32 1899447441), .lit (.int .u32 3049323471), .lit (.int .u32 3921009573), .lit (.int .u32 961987163), .lit (.int .u32 1508970993), .lit (.int .u32 2453635748), .lit (.int .u32 2870763221), .lit (.int .u32 3624381080), .lit (.int .u32 310598401), .lit (.int .u32 607225278), .lit (.int .u32 1426881987), .lit (.int .u32 1925078388), .lit (.int .u32 2162078206), .lit (.int .u32 2614888103), .lit (.int .u32 3248222580), .lit (.int .u32 3835390401), .lit (.int .u32 4022224774), .lit (.int .u32 264347078), .lit (.int .u32 604807628), .lit (.int .u32 770255983), .lit (.int .u32 1249150122), .lit (.int .u32 1555081692), .lit (.int .u32 1996064986), .lit (.int .u32 2554220882), .lit (.int .u32 2821834349), .lit (.int .u32 2952996808), .lit (.int .u32 3210313671), .lit (.int .u32 3336571891), .lit (.int .u32 3584528711), .lit (.int .u32 113926993), .lit (.int .u32 338241895), .lit (.int .u32 666307205), .lit (.int .u32 773529912), .lit (.int .u32 1294757372), .lit (.int .u32 1396182291), .lit (.int .u32 1695183700), .lit (.int .u32 1986661051), .lit (.int .u32 2177026350), .lit (.int .u32 2456956037), .lit (.int .u32 2730485921), .lit (.int .u32 2820302411), .lit (.int .u32 3259730800), .lit (.int .u32 3345764771), .lit (.int .u32 3516065817), .lit (.int .u32 3600352804), .lit (.int .u32 4094571909), .lit (.int .u32 275423344), .lit (.int .u32 430227734), .lit (.int .u32 506948616), .lit (.int .u32 659060556), .lit (.int .u32 883997877), .lit (.int .u32 958139571), .lit (.int .u32 1322822218), .lit (.int .u32 1537002063), .lit (.int .u32 1747873779), .lit (.int .u32 1955562222), .lit (.int .u32 2024104815), .lit (.int .u32 2227730452), .lit (.int .u32 2361852424), .lit (.int .u32 2428436474), .lit (.int .u32 2756734187), .lit (.int .u32 3204031479), .lit (.int .u32 3329325298)]
def laid_bootchain_sha_start {H : Type} : DataW H := .agg [.lit (.int .u32 1779033703), .lit (.int .u32 3144134277), .lit (.int .u32 1013904242), .lit (.int .u32 2773480762), .lit (.int .u32 1359893119), .lit (.int .u32 2600822924), .lit (.int .u32 528734635), .lit (.int .u32 1541459225)]

/-- 'bootchainlaw02.ShaStreamIsPrefix': WHATEVER THE INPUT: true; the input reads as it did. -/
def shaStreamIsPrefixSpec : ChangeSpec := { name := "shaStreamIsPrefix", fn := fun _ => fun
  | [d1, d2, d3] => { results := [.lit (.bool true)], args := [d1, d2, d3] }
  | _ => none }
def shaStreamIsPrefixRow : OpenClaim := { program := "ytnnecanjkogloaadoor", sum := "8a1ea61b1064be166f8a0c6439584cc0b1cf2d05d74afdc1e652dce83cdc6d09", func := "bootchain/bootchainlaw02.ShaStreamIsPrefix", spec := "shaStreamIsPrefix", inPlace := ["internal/bytealg.MakeNoZero"], unfollowed := true, recurses := true, named := ["bootchain/sha.start", "bootchain/sha.constants"], apart := false, laid := [("bootchain/sha.constants", laid_bootchain_sha_constants), ("bootchain/sha.start", laid_bootchain_sha_start)] }
def ShaStreamIsPrefixSaid : Prop := shaStreamIsPrefixRow.holds Tryd.pinned (OpenSpec.ofChange shaStreamIsPrefixSpec)

/-- ITS FALSE NEIGHBOUR: 'it returns false'. Refute it at one input. -/
def shaStreamIsPrefixWrong : ChangeSpec := { name := "shaStreamIsPrefix", fn := fun _ => fun
  | [d1, d2, d3] => { results := [.lit (.bool false)], args := [d1, d2, d3] }
  | _ => none }
def ShaStreamIsPrefixWrongFalsely : Prop := shaStreamIsPrefixRow.holds Tryd.pinned (OpenSpec.ofChange shaStreamIsPrefixWrong)

/-- 'bootchainlaw02.ShaLongKey': WHATEVER THE INPUT: true; the input reads as it did. -/
def shaLongKeySpec : ChangeSpec := { name := "shaLongKey", fn := fun _ => fun
  | [d1, d2, d3] => { results := [.lit (.bool true)], args := [d1, d2, d3] }
  | _ => none }
def shaLongKeyRow : OpenClaim := { program := "ytnnecanjkogloaadoor", sum := "8a1ea61b1064be166f8a0c6439584cc0b1cf2d05d74afdc1e652dce83cdc6d09", func := "bootchain/bootchainlaw02.ShaLongKey", spec := "shaLongKey", inPlace := ["internal/bytealg.MakeNoZero"], unfollowed := true, recurses := true, named := ["bootchain/sha.start", "bootchain/sha.constants"], apart := false, laid := [("bootchain/sha.constants", laid_bootchain_sha_constants), ("bootchain/sha.start", laid_bootchain_sha_start)] }
def ShaLongKeySaid : Prop := shaLongKeyRow.holds Tryd.pinned (OpenSpec.ofChange shaLongKeySpec)

/-- ITS FALSE NEIGHBOUR: 'it returns false'. Refute it at one input. -/
def shaLongKeyWrong : ChangeSpec := { name := "shaLongKey", fn := fun _ => fun
  | [d1, d2, d3] => { results := [.lit (.bool false)], args := [d1, d2, d3] }
  | _ => none }
def ShaLongKeyWrongFalsely : Prop := shaLongKeyRow.holds Tryd.pinned (OpenSpec.ofChange shaLongKeyWrong)

/-- 'bootchainlaw02.ShaMatchesSpec': WHATEVER THE INPUT: true; the input reads as it did. -/
def shaMatchesSpecSpec : ChangeSpec := { name := "shaMatchesSpec", fn := fun _ => fun
  | [d1, d2] => { results := [.lit (.bool true)], args := [d1, d2] }
  | _ => none }
def shaMatchesSpecRow : OpenClaim := { program := "ytnnecanjkogloaadoor", sum := "8a1ea61b1064be166f8a0c6439584cc0b1cf2d05d74afdc1e652dce83cdc6d09", func := "bootchain/bootchainlaw02.ShaMatchesSpec", spec := "shaMatchesSpec", inPlace := ["internal/bytealg.MakeNoZero"], unfollowed := true, recurses := true, named := ["bootchain/sha.start", "bootchain/sha.constants"], apart := false, laid := [("bootchain/sha.constants", laid_bootchain_sha_constants), ("bootchain/sha.start", laid_bootchain_sha_start)] }
def ShaMatchesSpecSaid : Prop := shaMatchesSpecRow.holds Tryd.pinned (OpenSpec.ofChange shaMatchesSpecSpec)

/-- ITS FALSE NEIGHBOUR: 'it returns false'. Refute it at one input. -/
def shaMatchesSpecWrong : ChangeSpec := { name := "shaMatchesSpec", fn := fun _ => fun
  | [d1, d2] => { results := [.lit (.bool false)], args := [d1, d2] }
  | _ => none }
def ShaMatchesSpecWrongFalsely : Prop := shaMatchesSpecRow.holds Tryd.pinned (OpenSpec.ofChange shaMatchesSpecWrong)

/-- 'bootchainlaw02.ShaDigestSeparatesTags': WHATEVER THE INPUT: true; the input reads as it did. -/
def shaDigestSeparatesTagsSpec : ChangeSpec := { name := "shaDigestSeparatesTags", fn := fun _ => fun
  | [d1, d2, d3] => { results := [.lit (.bool true)], args := [d1, d2, d3] }
  | _ => none }
def shaDigestSeparatesTagsRow : OpenClaim := { program := "ytnnecanjkogloaadoor", sum := "8a1ea61b1064be166f8a0c6439584cc0b1cf2d05d74afdc1e652dce83cdc6d09", func := "bootchain/bootchainlaw02.ShaDigestSeparatesTags", spec := "shaDigestSeparatesTags", inPlace := ["internal/bytealg.MakeNoZero"], unfollowed := true, recurses := true, named := ["bootchain/sha.start", "bootchain/sha.constants"], apart := false, laid := [("bootchain/sha.constants", laid_bootchain_sha_constants), ("bootchain/sha.start", laid_bootchain_sha_start)] }
def ShaDigestSeparatesTagsSaid : Prop := shaDigestSeparatesTagsRow.holds Tryd.pinned (OpenSpec.ofChange shaDigestSeparatesTagsSpec)

/-- ITS FALSE NEIGHBOUR: 'it returns false'. Refute it at one input. -/
def shaDigestSeparatesTagsWrong : ChangeSpec := { name := "shaDigestSeparatesTags", fn := fun _ => fun
  | [d1, d2, d3] => { results := [.lit (.bool false)], args := [d1, d2, d3] }
  | _ => none }
def ShaDigestSeparatesTagsWrongFalsely : Prop := shaDigestSeparatesTagsRow.holds Tryd.pinned (OpenSpec.ofChange shaDigestSeparatesTagsWrong)

/-- 'bootchainlaw02.ShaDigestMatchesSpec': WHATEVER THE INPUT: true; the input reads as it did. -/
def shaDigestMatchesSpecSpec : ChangeSpec := { name := "shaDigestMatchesSpec", fn := fun _ => fun
  | [d] => { results := [.lit (.bool true)], args := [d] }
  | _ => none }
def shaDigestMatchesSpecRow : OpenClaim := { program := "ytnnecanjkogloaadoor", sum := "8a1ea61b1064be166f8a0c6439584cc0b1cf2d05d74afdc1e652dce83cdc6d09", func := "bootchain/bootchainlaw02.ShaDigestMatchesSpec", spec := "shaDigestMatchesSpec", inPlace := ["internal/bytealg.MakeNoZero"], unfollowed := true, recurses := true, named := ["bootchain/sha.start", "bootchain/sha.constants"], apart := false, laid := [("bootchain/sha.constants", laid_bootchain_sha_constants), ("bootchain/sha.start", laid_bootchain_sha_start)] }
def ShaDigestMatchesSpecSaid : Prop := shaDigestMatchesSpecRow.holds Tryd.pinned (OpenSpec.ofChange shaDigestMatchesSpecSpec)

/-- ITS FALSE NEIGHBOUR: 'it returns false'. Refute it at one input. -/
def shaDigestMatchesSpecWrong : ChangeSpec := { name := "shaDigestMatchesSpec", fn := fun _ => fun
  | [d] => { results := [.lit (.bool false)], args := [d] }
  | _ => none }
def ShaDigestMatchesSpecWrongFalsely : Prop := shaDigestMatchesSpecRow.holds Tryd.pinned (OpenSpec.ofChange shaDigestMatchesSpecWrong)

/-- 'bootchainlaw02.ShaArgumentsUnchanged': WHATEVER THE INPUT: true; the input reads as it did. -/
def shaArgumentsUnchangedSpec : ChangeSpec := { name := "shaArgumentsUnchanged", fn := fun _ => fun
  | [d] => { results := [.lit (.bool true)], args := [d] }
  | _ => none }
def shaArgumentsUnchangedRow : OpenClaim := { program := "ytnnecanjkogloaadoor", sum := "8a1ea61b1064be166f8a0c6439584cc0b1cf2d05d74afdc1e652dce83cdc6d09", func := "bootchain/bootchainlaw02.ShaArgumentsUnchanged", spec := "shaArgumentsUnchanged", inPlace := ["internal/bytealg.MakeNoZero"], unfollowed := true, recurses := true, named := ["bootchain/sha.start", "bootchain/sha.constants"], apart := false, laid := [("bootchain/sha.constants", laid_bootchain_sha_constants), ("bootchain/sha.start", laid_bootchain_sha_start)] }
def ShaArgumentsUnchangedSaid : Prop := shaArgumentsUnchangedRow.holds Tryd.pinned (OpenSpec.ofChange shaArgumentsUnchangedSpec)

/-- ITS FALSE NEIGHBOUR: 'it returns false'. Refute it at one input. -/
def shaArgumentsUnchangedWrong : ChangeSpec := { name := "shaArgumentsUnchanged", fn := fun _ => fun
  | [d] => { results := [.lit (.bool false)], args := [d] }
  | _ => none }
def ShaArgumentsUnchangedWrongFalsely : Prop := shaArgumentsUnchangedRow.holds Tryd.pinned (OpenSpec.ofChange shaArgumentsUnchangedWrong)

/-- 'bootchainlaw06.BoxMatches': WHATEVER THE INPUT: true; the input reads as it did. -/
def boxMatchesSpec : ChangeSpec := { name := "boxMatches", fn := fun _ => fun
  | [d1, d2, d3, d4] => { results := [.lit (.bool true)], args := [d1, d2, d3, d4] }
  | _ => none }
def boxMatchesRow : OpenClaim := { program := "ytnnecanjkogloaadoor", sum := "8a1ea61b1064be166f8a0c6439584cc0b1cf2d05d74afdc1e652dce83cdc6d09", func := "bootchain/bootchainlaw06.BoxMatches", spec := "boxMatches", inPlace := ["internal/bytealg.MakeNoZero"], unfollowed := true, recurses := true, named := ["bootchain/sha.start", "bootchain/sha.constants"], apart := false, laid := [("bootchain/sha.constants", laid_bootchain_sha_constants), ("bootchain/sha.start", laid_bootchain_sha_start)] }
def BoxMatchesSaid : Prop := boxMatchesRow.holds Tryd.pinned (OpenSpec.ofChange boxMatchesSpec)

/-- ITS FALSE NEIGHBOUR: 'it returns false'. Refute it at one input. -/
def boxMatchesWrong : ChangeSpec := { name := "boxMatches", fn := fun _ => fun
  | [d1, d2, d3, d4] => { results := [.lit (.bool false)], args := [d1, d2, d3, d4] }
  | _ => none }
def BoxMatchesWrongFalsely : Prop := boxMatchesRow.holds Tryd.pinned (OpenSpec.ofChange boxMatchesWrong)

/-- 'bootchainlaw06.BoxRoundTrip': WHATEVER THE INPUT: true; the input reads as it did. -/
def boxRoundTripSpec : ChangeSpec := { name := "boxRoundTrip", fn := fun _ => fun
  | [d1, d2, d3] => { results := [.lit (.bool true)], args := [d1, d2, d3] }
  | _ => none }
def boxRoundTripRow : OpenClaim := { program := "ytnnecanjkogloaadoor", sum := "8a1ea61b1064be166f8a0c6439584cc0b1cf2d05d74afdc1e652dce83cdc6d09", func := "bootchain/bootchainlaw06.BoxRoundTrip", spec := "boxRoundTrip", inPlace := ["internal/bytealg.MakeNoZero"], unfollowed := true, recurses := true, named := ["bootchain/sha.start", "bootchain/sha.constants"], apart := false, laid := [("bootchain/sha.constants", laid_bootchain_sha_constants), ("bootchain/sha.start", laid_bootchain_sha_start)] }
def BoxRoundTripSaid : Prop := boxRoundTripRow.holds Tryd.pinned (OpenSpec.ofChange boxRoundTripSpec)

/-- ITS FALSE NEIGHBOUR: 'it returns false'. Refute it at one input. -/
def boxRoundTripWrong : ChangeSpec := { name := "boxRoundTrip", fn := fun _ => fun
  | [d1, d2, d3] => { results := [.lit (.bool false)], args := [d1, d2, d3] }
  | _ => none }
def BoxRoundTripWrongFalsely : Prop := boxRoundTripRow.holds Tryd.pinned (OpenSpec.ofChange boxRoundTripWrong)

/-- 'bootchainlaw06.BoxAuthentic': WHATEVER THE INPUT: true; the input reads as it did. -/
def boxAuthenticSpec : ChangeSpec := { name := "boxAuthentic", fn := fun _ => fun
  | [d1, d2] => { results := [.lit (.bool true)], args := [d1, d2] }
  | _ => none }
def boxAuthenticRow : OpenClaim := { program := "ytnnecanjkogloaadoor", sum := "8a1ea61b1064be166f8a0c6439584cc0b1cf2d05d74afdc1e652dce83cdc6d09", func := "bootchain/bootchainlaw06.BoxAuthentic", spec := "boxAuthentic", inPlace := ["internal/bytealg.MakeNoZero"], unfollowed := true, recurses := true, named := ["bootchain/sha.start", "bootchain/sha.constants"], apart := false, laid := [("bootchain/sha.constants", laid_bootchain_sha_constants), ("bootchain/sha.start", laid_bootchain_sha_start)] }
def BoxAuthenticSaid : Prop := boxAuthenticRow.holds Tryd.pinned (OpenSpec.ofChange boxAuthenticSpec)

/-- ITS FALSE NEIGHBOUR: 'it returns false'. Refute it at one input. -/
def boxAuthenticWrong : ChangeSpec := { name := "boxAuthentic", fn := fun _ => fun
  | [d1, d2] => { results := [.lit (.bool false)], args := [d1, d2] }
  | _ => none }
def BoxAuthenticWrongFalsely : Prop := boxAuthenticRow.holds Tryd.pinned (OpenSpec.ofChange boxAuthenticWrong)

/-- 'bootchainlaw06.BoxTampered': WHATEVER THE INPUT: true; the input reads as it did. -/
def boxTamperedSpec : ChangeSpec := { name := "boxTampered", fn := fun _ => fun
  | [d1, d2, d3, d4, d5, d6] => { results := [.lit (.bool true)], args := [d1, d2, d3, d4, d5, d6] }
  | _ => none }
def boxTamperedRow : OpenClaim := { program := "ytnnecanjkogloaadoor", sum := "8a1ea61b1064be166f8a0c6439584cc0b1cf2d05d74afdc1e652dce83cdc6d09", func := "bootchain/bootchainlaw06.BoxTampered", spec := "boxTampered", inPlace := ["internal/bytealg.MakeNoZero"], unfollowed := true, recurses := true, named := ["bootchain/sha.start", "bootchain/sha.constants"], apart := false, laid := [("bootchain/sha.constants", laid_bootchain_sha_constants), ("bootchain/sha.start", laid_bootchain_sha_start)] }
def BoxTamperedSaid : Prop := boxTamperedRow.holds Tryd.pinned (OpenSpec.ofChange boxTamperedSpec)

/-- ITS FALSE NEIGHBOUR: 'it returns false'. Refute it at one input. -/
def boxTamperedWrong : ChangeSpec := { name := "boxTampered", fn := fun _ => fun
  | [d1, d2, d3, d4, d5, d6] => { results := [.lit (.bool false)], args := [d1, d2, d3, d4, d5, d6] }
  | _ => none }
def BoxTamperedWrongFalsely : Prop := boxTamperedRow.holds Tryd.pinned (OpenSpec.ofChange boxTamperedWrong)

/-- 'bootchainlaw06.BoxStream': WHATEVER THE INPUT: true; the input reads as it did. -/
def boxStreamSpec : ChangeSpec := { name := "boxStream", fn := fun _ => fun
  | [d1, d2, d3, d4] => { results := [.lit (.bool true)], args := [d1, d2, d3, d4] }
  | _ => none }
def boxStreamRow : OpenClaim := { program := "ytnnecanjkogloaadoor", sum := "8a1ea61b1064be166f8a0c6439584cc0b1cf2d05d74afdc1e652dce83cdc6d09", func := "bootchain/bootchainlaw06.BoxStream", spec := "boxStream", inPlace := ["internal/bytealg.MakeNoZero"], unfollowed := true, recurses := true, named := ["bootchain/sha.start", "bootchain/sha.constants"], apart := false, laid := [("bootchain/sha.constants", laid_bootchain_sha_constants), ("bootchain/sha.start", laid_bootchain_sha_start)] }
def BoxStreamSaid : Prop := boxStreamRow.holds Tryd.pinned (OpenSpec.ofChange boxStreamSpec)

/-- ITS FALSE NEIGHBOUR: 'it returns false'. Refute it at one input. -/
def boxStreamWrong : ChangeSpec := { name := "boxStream", fn := fun _ => fun
  | [d1, d2, d3, d4] => { results := [.lit (.bool false)], args := [d1, d2, d3, d4] }
  | _ => none }
def BoxStreamWrongFalsely : Prop := boxStreamRow.holds Tryd.pinned (OpenSpec.ofChange boxStreamWrong)

/- THE SECOND FORM. 'bulk': how many values and letters a reading holds, each counted each time it is reached (what is shared counts as often as it is met; a slice's spare places count too). A statement '..UptoSaid' is the law's where the arguments, and the package variables that the reading takes, are together of bulk at most 1048576: NARROWER than '..Said'. Prove '..Said' where nothing that the law and all that it calls make is longer than what came in: it says more and counts as full. Else prove '..UptoSaid'. A law counts once. -/
mutual
def uptoBulk {H : Type} : DataW H → Nat
  | .lit (.string bytes) => bytes.length + 1
  | .lit _ => 1
  | .nil => 1
  | .ptr d => uptoBulk d + 1
  | .slice elems spare => uptoBulkAll elems + uptoBulkAll spare + 1
  | .agg parts => uptoBulkAll parts + 1
  | .iface _ d => uptoBulk d + 1
  | .map entries => uptoBulkEntries entries + 1
  | .held _ => 1
def uptoBulkAll {H : Type} : List (DataW H) → Nat
  | [] => 0
  | d :: r => uptoBulk d + uptoBulkAll r
def uptoBulkEntries {H : Type} : List (Lit × DataW H) → Nat
  | [] => 0
  | x :: r => uptoBulkEntry x + uptoBulkEntries r
def uptoBulkEntry {H : Type} : Lit × DataW H → Nat
  | (.string bytes, d) => bytes.length + uptoBulk d + 1
  | (_, d) => uptoBulk d + 1
 end
def uptoSmall : (H : Type) → List (DataW H) → Bool := fun _ ds => decide (uptoBulkAll ds ≤ 1048576)
def OpenSpec.upto (s : _root_.Go.ChangeSpec) : _root_.Go.OpenSpec := { _root_.Go.OpenSpec.ofChange s with cond := some uptoSmall }

/-- 'bootchainlaw02.ShaStreamIsPrefix', WHERE WHAT IT READS IS OF BULK AT MOST 1048576: true; the input reads as it did. -/
def shaStreamIsPrefixUptoRow : OpenClaim := { program := "ytnnecanjkogloaadoor", sum := "8a1ea61b1064be166f8a0c6439584cc0b1cf2d05d74afdc1e652dce83cdc6d09", func := "bootchain/bootchainlaw02.ShaStreamIsPrefix", spec := "shaStreamIsPrefix", inPlace := ["internal/bytealg.MakeNoZero"], unfollowed := true, recurses := true, named := ["bootchain/sha.start", "bootchain/sha.constants"], apart := false, laid := [("bootchain/sha.constants", laid_bootchain_sha_constants), ("bootchain/sha.start", laid_bootchain_sha_start)], narrowed := true }
def ShaStreamIsPrefixUptoSaid : Prop := shaStreamIsPrefixUptoRow.holds Tryd.pinned (OpenSpec.upto shaStreamIsPrefixSpec)

/-- 'bootchainlaw02.ShaLongKey', WHERE WHAT IT READS IS OF BULK AT MOST 1048576: true; the input reads as it did. -/
def shaLongKeyUptoRow : OpenClaim := { program := "ytnnecanjkogloaadoor", sum := "8a1ea61b1064be166f8a0c6439584cc0b1cf2d05d74afdc1e652dce83cdc6d09", func := "bootchain/bootchainlaw02.ShaLongKey", spec := "shaLongKey", inPlace := ["internal/bytealg.MakeNoZero"], unfollowed := true, recurses := true, named := ["bootchain/sha.start", "bootchain/sha.constants"], apart := false, laid := [("bootchain/sha.constants", laid_bootchain_sha_constants), ("bootchain/sha.start", laid_bootchain_sha_start)], narrowed := true }
def ShaLongKeyUptoSaid : Prop := shaLongKeyUptoRow.holds Tryd.pinned (OpenSpec.upto shaLongKeySpec)

/-- 'bootchainlaw02.ShaMatchesSpec', WHERE WHAT IT READS IS OF BULK AT MOST 1048576: true; the input reads as it did. -/
def shaMatchesSpecUptoRow : OpenClaim := { program := "ytnnecanjkogloaadoor", sum := "8a1ea61b1064be166f8a0c6439584cc0b1cf2d05d74afdc1e652dce83cdc6d09", func := "bootchain/bootchainlaw02.ShaMatchesSpec", spec := "shaMatchesSpec", inPlace := ["internal/bytealg.MakeNoZero"], unfollowed := true, recurses := true, named := ["bootchain/sha.start", "bootchain/sha.constants"], apart := false, laid := [("bootchain/sha.constants", laid_bootchain_sha_constants), ("bootchain/sha.start", laid_bootchain_sha_start)], narrowed := true }
def ShaMatchesSpecUptoSaid : Prop := shaMatchesSpecUptoRow.holds Tryd.pinned (OpenSpec.upto shaMatchesSpecSpec)

/-- 'bootchainlaw02.ShaDigestSeparatesTags', WHERE WHAT IT READS IS OF BULK AT MOST 1048576: true; the input reads as it did. -/
def shaDigestSeparatesTagsUptoRow : OpenClaim := { program := "ytnnecanjkogloaadoor", sum := "8a1ea61b1064be166f8a0c6439584cc0b1cf2d05d74afdc1e652dce83cdc6d09", func := "bootchain/bootchainlaw02.ShaDigestSeparatesTags", spec := "shaDigestSeparatesTags", inPlace := ["internal/bytealg.MakeNoZero"], unfollowed := true, recurses := true, named := ["bootchain/sha.start", "bootchain/sha.constants"], apart := false, laid := [("bootchain/sha.constants", laid_bootchain_sha_constants), ("bootchain/sha.start", laid_bootchain_sha_start)], narrowed := true }
def ShaDigestSeparatesTagsUptoSaid : Prop := shaDigestSeparatesTagsUptoRow.holds Tryd.pinned (OpenSpec.upto shaDigestSeparatesTagsSpec)

/-- 'bootchainlaw02.ShaDigestMatchesSpec', WHERE WHAT IT READS IS OF BULK AT MOST 1048576: true; the input reads as it did. -/
def shaDigestMatchesSpecUptoRow : OpenClaim := { program := "ytnnecanjkogloaadoor", sum := "8a1ea61b1064be166f8a0c6439584cc0b1cf2d05d74afdc1e652dce83cdc6d09", func := "bootchain/bootchainlaw02.ShaDigestMatchesSpec", spec := "shaDigestMatchesSpec", inPlace := ["internal/bytealg.MakeNoZero"], unfollowed := true, recurses := true, named := ["bootchain/sha.start", "bootchain/sha.constants"], apart := false, laid := [("bootchain/sha.constants", laid_bootchain_sha_constants), ("bootchain/sha.start", laid_bootchain_sha_start)], narrowed := true }
def ShaDigestMatchesSpecUptoSaid : Prop := shaDigestMatchesSpecUptoRow.holds Tryd.pinned (OpenSpec.upto shaDigestMatchesSpecSpec)

/-- 'bootchainlaw02.ShaArgumentsUnchanged', WHERE WHAT IT READS IS OF BULK AT MOST 1048576: true; the input reads as it did. -/
def shaArgumentsUnchangedUptoRow : OpenClaim := { program := "ytnnecanjkogloaadoor", sum := "8a1ea61b1064be166f8a0c6439584cc0b1cf2d05d74afdc1e652dce83cdc6d09", func := "bootchain/bootchainlaw02.ShaArgumentsUnchanged", spec := "shaArgumentsUnchanged", inPlace := ["internal/bytealg.MakeNoZero"], unfollowed := true, recurses := true, named := ["bootchain/sha.start", "bootchain/sha.constants"], apart := false, laid := [("bootchain/sha.constants", laid_bootchain_sha_constants), ("bootchain/sha.start", laid_bootchain_sha_start)], narrowed := true }
def ShaArgumentsUnchangedUptoSaid : Prop := shaArgumentsUnchangedUptoRow.holds Tryd.pinned (OpenSpec.upto shaArgumentsUnchangedSpec)

/-- 'bootchainlaw06.BoxMatches', WHERE WHAT IT READS IS OF BULK AT MOST 1048576: true; the input reads as it did. -/
def boxMatchesUptoRow : OpenClaim := { program := "ytnnecanjkogloaadoor", sum := "8a1ea61b1064be166f8a0c6439584cc0b1cf2d05d74afdc1e652dce83cdc6d09", func := "bootchain/bootchainlaw06.BoxMatches", spec := "boxMatches", inPlace := ["internal/bytealg.MakeNoZero"], unfollowed := true, recurses := true, named := ["bootchain/sha.start", "bootchain/sha.constants"], apart := false, laid := [("bootchain/sha.constants", laid_bootchain_sha_constants), ("bootchain/sha.start", laid_bootchain_sha_start)], narrowed := true }
def BoxMatchesUptoSaid : Prop := boxMatchesUptoRow.holds Tryd.pinned (OpenSpec.upto boxMatchesSpec)

/-- 'bootchainlaw06.BoxRoundTrip', WHERE WHAT IT READS IS OF BULK AT MOST 1048576: true; the input reads as it did. -/
def boxRoundTripUptoRow : OpenClaim := { program := "ytnnecanjkogloaadoor", sum := "8a1ea61b1064be166f8a0c6439584cc0b1cf2d05d74afdc1e652dce83cdc6d09", func := "bootchain/bootchainlaw06.BoxRoundTrip", spec := "boxRoundTrip", inPlace := ["internal/bytealg.MakeNoZero"], unfollowed := true, recurses := true, named := ["bootchain/sha.start", "bootchain/sha.constants"], apart := false, laid := [("bootchain/sha.constants", laid_bootchain_sha_constants), ("bootchain/sha.start", laid_bootchain_sha_start)], narrowed := true }
def BoxRoundTripUptoSaid : Prop := boxRoundTripUptoRow.holds Tryd.pinned (OpenSpec.upto boxRoundTripSpec)

/-- 'bootchainlaw06.BoxAuthentic', WHERE WHAT IT READS IS OF BULK AT MOST 1048576: true; the input reads as it did. -/
def boxAuthenticUptoRow : OpenClaim := { program := "ytnnecanjkogloaadoor", sum := "8a1ea61b1064be166f8a0c6439584cc0b1cf2d05d74afdc1e652dce83cdc6d09", func := "bootchain/bootchainlaw06.BoxAuthentic", spec := "boxAuthentic", inPlace := ["internal/bytealg.MakeNoZero"], unfollowed := true, recurses := true, named := ["bootchain/sha.start", "bootchain/sha.constants"], apart := false, laid := [("bootchain/sha.constants", laid_bootchain_sha_constants), ("bootchain/sha.start", laid_bootchain_sha_start)], narrowed := true }
def BoxAuthenticUptoSaid : Prop := boxAuthenticUptoRow.holds Tryd.pinned (OpenSpec.upto boxAuthenticSpec)

/-- 'bootchainlaw06.BoxTampered', WHERE WHAT IT READS IS OF BULK AT MOST 1048576: true; the input reads as it did. -/
def boxTamperedUptoRow : OpenClaim := { program := "ytnnecanjkogloaadoor", sum := "8a1ea61b1064be166f8a0c6439584cc0b1cf2d05d74afdc1e652dce83cdc6d09", func := "bootchain/bootchainlaw06.BoxTampered", spec := "boxTampered", inPlace := ["internal/bytealg.MakeNoZero"], unfollowed := true, recurses := true, named := ["bootchain/sha.start", "bootchain/sha.constants"], apart := false, laid := [("bootchain/sha.constants", laid_bootchain_sha_constants), ("bootchain/sha.start", laid_bootchain_sha_start)], narrowed := true }
def BoxTamperedUptoSaid : Prop := boxTamperedUptoRow.holds Tryd.pinned (OpenSpec.upto boxTamperedSpec)

/-- 'bootchainlaw06.BoxStream', WHERE WHAT IT READS IS OF BULK AT MOST 1048576: true; the input reads as it did. -/
def boxStreamUptoRow : OpenClaim := { program := "ytnnecanjkogloaadoor", sum := "8a1ea61b1064be166f8a0c6439584cc0b1cf2d05d74afdc1e652dce83cdc6d09", func := "bootchain/bootchainlaw06.BoxStream", spec := "boxStream", inPlace := ["internal/bytealg.MakeNoZero"], unfollowed := true, recurses := true, named := ["bootchain/sha.start", "bootchain/sha.constants"], apart := false, laid := [("bootchain/sha.constants", laid_bootchain_sha_constants), ("bootchain/sha.start", laid_bootchain_sha_start)], narrowed := true }
def BoxStreamUptoSaid : Prop := boxStreamUptoRow.holds Tryd.pinned (OpenSpec.upto boxStreamSpec)

end Rows
end Go.Proofs.YtnnecanjkogloaaDoor
