/-
  NARROWER THAN 'FOR EVERY INPUT', by the rows' own cells (each row's printed sentence says how): WotsMatchesSpec: laid · WotsVerifies: laid · WotsDigits: laid · WotsAntichain: laid · WotsAdvance: laid · WotsReduction: laid · TreesigMatchesSpec: laid · TreesigVerifyMatchesSpec: laid · TreesigVerifiesOwn: laid · TreesigRejectsMalformed: laid · TreesigBindsKey: laid · TreesigSharesPaths: laid.
  DERIVED. THE GIVEN ROWS OF THIS SEAT. 12 by the template 'for every input the law returns true; each argument reads behind the call as it read before'; 0 by the template 'total and deterministic' (their statements: YtjemfefkgfoikaaDoorTotals.lean).
  GIVEN WITH THE SEED: the statements are not yours to turn. If you find one false, say at which input.
  Laid BY PROGRAM, IN A SANDBOX (cutbox-rows.mjs): the forced cells as the released guide's own fill.sh prints them over the translation 3cc63002242822ef… (all of the seat's roots in one cut). By AI agents, Wed Nov 11 2026. No macro, syntax, notation, axiom, sorry.
-/
import Derived.Test.YtjemfefkgfoikaaDoorChecked
import GoSem.Claim
import GoSem.ClaimJoined
import GoSem.ClaimMapViews
import Derived.JoinedTies
import Derived.KernelRfl
namespace Go.Proofs.YtjemfefkgfoikaaDoor
/- THE CELL 'sum', in the pinned program and in every row, IS THE sha256 OF THE DUMP (.gsa) THAT YtjemfefkgfoikaaDoorProg.lean LOADS. Nothing in Lean hashes anything: it is a label: what it is worth is what the hold of that sum in a sandbox is worth. -/
noncomputable def Tryd.pinned : Pinned := { name := "ytjemfefkgfoikaadoor", sum := "3cc63002242822ef7e9cd27389a7b0109a4f4807061d0f964e1c6642f22b6959", checked := Tryd.checked }
namespace Rows
def none {H : Type} : Left H := { results := [], args := [] }

/- WHAT THE LISTED PACKAGE-LEVEL VARIABLES READ AS WHEN THE CALL BEGINS. Each datum BY PROGRAM (the guide's laid-datum.mjs) off the statement by which the dump's own 'gosem.cut.vars' lays the variable. In a bare row this is a premise. The card (YtjemfefkgfoikaaDoorCards.lean) ties it to the program's text. -/
def laid_bootchain_sha_constants {H : Type} : DataW H := .agg [.lit (.int .u32 1116352408), .lit (.int .u32 1899447441), .lit (.int .u32 3049323471), .lit (.int .u32 3921009573), .lit (.int .u32 961987163), .lit (.int .u32 1508970993), .lit (.int .u32 2453635748), .lit (.int .u32 2870763221), .lit (.int .u32 3624381080), .lit (.int .u32 310598401), .lit (.int .u32 607225278), .lit (.int .u32 1426881987), .lit (.int .u32 1925078388), .lit (.int .u32 2162078206), .lit (.int .u32 2614888103), .lit (.int .u32 3248222580), .lit (.int .u32 3835390401), .lit (.int .u32 4022224774), .lit (.int .u32 264347078), .lit (.int .u32 604807628), .lit (.int .u32 770255983), .lit (.int .u32 1249150122), .lit (.int .u32 1555081692), .lit (.int .u32 1996064986), .lit (.int .u32 2554220882), .lit (.int .u32 2821834349), .lit (.int .u32 2952996808), .lit (.int .u32 3210313671), .lit (.int .u32 3336571891), .lit (.int .u32 3584528711), .lit (.int .u32 113926993), .lit (.int .u32 338241895), .lit (.int .u32 666307205), .lit (.int .u32 773529912), .lit (.int .u32 1294757372), .lit (.int .u32 1396182291), .lit (.int .u32 1695183700), .lit (.int .u32 1986661051), .lit (.int .u32 2177026350), .lit (.int .u32 2456956037), .lit (.int .u32 2730485921), .lit (.int .u32 2820302411), .lit (.int .u32 3259730800), .lit (.int .u32 3345764771), .lit (.int .u32 3516065817), .lit (.int .u32 3600352804), .lit (.int .u32 4094571909), .lit (.int .u32 275423344), .lit (.int .u32 430227734), .lit (.int .u32 506948616), .lit (.int .u32 659060556), .lit (.int .u32 883997877), .lit (.int .u32 958139571), .lit (.int .u32 1322822218), .lit (.int .u32 1537002063), .lit (.int .u32 1747873779), .lit (.int .u32 1955562222), .lit (.int .u32 2024104815), .lit (.int .u32 2227730452), .lit (.int .u32 2361852424), .lit (.int .u32 2428436474), .lit (.int .u32 2756734187), .lit (.int .u32 3204031479), .lit (.int .u32 3329325298)]
def laid_bootchain_sha_start {H : Type} : DataW H := .agg [.lit (.int .u32 1779033703), .lit (.int .u32 3144134277), .lit (.int .u32 1013904242), .lit (.int .u32 2773480762), .lit (.int .u32 1359893119), .lit (.int .u32 2600822924), .lit (.int .u32 528734635), .lit (.int .u32 1541459225)]

/-- 'bootchainlaw04.WotsMatchesSpec': WHATEVER THE INPUT: true; the input reads as it did. -/
def wotsMatchesSpecSpec : ChangeSpec := { name := "wotsMatchesSpec", fn := fun _ => fun
  | [d1, d2, d3, d4] => { results := [.lit (.bool true)], args := [d1, d2, d3, d4] }
  | _ => none }
def wotsMatchesSpecRow : OpenClaim := { program := "ytjemfefkgfoikaadoor", sum := "3cc63002242822ef7e9cd27389a7b0109a4f4807061d0f964e1c6642f22b6959", func := "bootchain/bootchainlaw04.WotsMatchesSpec", spec := "wotsMatchesSpec", inPlace := ["internal/bytealg.MakeNoZero"], unfollowed := true, recurses := true, named := ["bootchain/sha.start", "bootchain/sha.constants"], apart := false, laid := [("bootchain/sha.constants", laid_bootchain_sha_constants), ("bootchain/sha.start", laid_bootchain_sha_start)] }
def WotsMatchesSpecSaid : Prop := wotsMatchesSpecRow.holds Tryd.pinned (OpenSpec.ofChange wotsMatchesSpecSpec)

/-- ITS FALSE NEIGHBOUR: 'it returns false'. Refute it at one input. -/
def wotsMatchesSpecWrong : ChangeSpec := { name := "wotsMatchesSpec", fn := fun _ => fun
  | [d1, d2, d3, d4] => { results := [.lit (.bool false)], args := [d1, d2, d3, d4] }
  | _ => none }
def WotsMatchesSpecWrongFalsely : Prop := wotsMatchesSpecRow.holds Tryd.pinned (OpenSpec.ofChange wotsMatchesSpecWrong)

/-- 'bootchainlaw04.WotsVerifies': WHATEVER THE INPUT: true; the input reads as it did. -/
def wotsVerifiesSpec : ChangeSpec := { name := "wotsVerifies", fn := fun _ => fun
  | [d1, d2, d3] => { results := [.lit (.bool true)], args := [d1, d2, d3] }
  | _ => none }
def wotsVerifiesRow : OpenClaim := { program := "ytjemfefkgfoikaadoor", sum := "3cc63002242822ef7e9cd27389a7b0109a4f4807061d0f964e1c6642f22b6959", func := "bootchain/bootchainlaw04.WotsVerifies", spec := "wotsVerifies", inPlace := ["internal/bytealg.MakeNoZero"], unfollowed := true, recurses := true, named := ["bootchain/sha.start", "bootchain/sha.constants"], apart := false, laid := [("bootchain/sha.constants", laid_bootchain_sha_constants), ("bootchain/sha.start", laid_bootchain_sha_start)] }
def WotsVerifiesSaid : Prop := wotsVerifiesRow.holds Tryd.pinned (OpenSpec.ofChange wotsVerifiesSpec)

/-- ITS FALSE NEIGHBOUR: 'it returns false'. Refute it at one input. -/
def wotsVerifiesWrong : ChangeSpec := { name := "wotsVerifies", fn := fun _ => fun
  | [d1, d2, d3] => { results := [.lit (.bool false)], args := [d1, d2, d3] }
  | _ => none }
def WotsVerifiesWrongFalsely : Prop := wotsVerifiesRow.holds Tryd.pinned (OpenSpec.ofChange wotsVerifiesWrong)

/-- 'bootchainlaw04.WotsDigits': WHATEVER THE INPUT: true; the input reads as it did. -/
def wotsDigitsSpec : ChangeSpec := { name := "wotsDigits", fn := fun _ => fun
  | [d] => { results := [.lit (.bool true)], args := [d] }
  | _ => none }
def wotsDigitsRow : OpenClaim := { program := "ytjemfefkgfoikaadoor", sum := "3cc63002242822ef7e9cd27389a7b0109a4f4807061d0f964e1c6642f22b6959", func := "bootchain/bootchainlaw04.WotsDigits", spec := "wotsDigits", inPlace := ["internal/bytealg.MakeNoZero"], unfollowed := true, recurses := true, named := ["bootchain/sha.start", "bootchain/sha.constants"], apart := false, laid := [("bootchain/sha.constants", laid_bootchain_sha_constants), ("bootchain/sha.start", laid_bootchain_sha_start)] }
def WotsDigitsSaid : Prop := wotsDigitsRow.holds Tryd.pinned (OpenSpec.ofChange wotsDigitsSpec)

/-- ITS FALSE NEIGHBOUR: 'it returns false'. Refute it at one input. -/
def wotsDigitsWrong : ChangeSpec := { name := "wotsDigits", fn := fun _ => fun
  | [d] => { results := [.lit (.bool false)], args := [d] }
  | _ => none }
def WotsDigitsWrongFalsely : Prop := wotsDigitsRow.holds Tryd.pinned (OpenSpec.ofChange wotsDigitsWrong)

/-- 'bootchainlaw04.WotsAntichain': WHATEVER THE INPUT: true; the input reads as it did. -/
def wotsAntichainSpec : ChangeSpec := { name := "wotsAntichain", fn := fun _ => fun
  | [d1, d2] => { results := [.lit (.bool true)], args := [d1, d2] }
  | _ => none }
def wotsAntichainRow : OpenClaim := { program := "ytjemfefkgfoikaadoor", sum := "3cc63002242822ef7e9cd27389a7b0109a4f4807061d0f964e1c6642f22b6959", func := "bootchain/bootchainlaw04.WotsAntichain", spec := "wotsAntichain", inPlace := ["internal/bytealg.MakeNoZero"], unfollowed := true, recurses := true, named := ["bootchain/sha.start", "bootchain/sha.constants"], apart := false, laid := [("bootchain/sha.constants", laid_bootchain_sha_constants), ("bootchain/sha.start", laid_bootchain_sha_start)] }
def WotsAntichainSaid : Prop := wotsAntichainRow.holds Tryd.pinned (OpenSpec.ofChange wotsAntichainSpec)

/-- ITS FALSE NEIGHBOUR: 'it returns false'. Refute it at one input. -/
def wotsAntichainWrong : ChangeSpec := { name := "wotsAntichain", fn := fun _ => fun
  | [d1, d2] => { results := [.lit (.bool false)], args := [d1, d2] }
  | _ => none }
def WotsAntichainWrongFalsely : Prop := wotsAntichainRow.holds Tryd.pinned (OpenSpec.ofChange wotsAntichainWrong)

/-- 'bootchainlaw04.WotsAdvance': WHATEVER THE INPUT: true; the input reads as it did. -/
def wotsAdvanceSpec : ChangeSpec := { name := "wotsAdvance", fn := fun _ => fun
  | [d1, d2, d3, d4] => { results := [.lit (.bool true)], args := [d1, d2, d3, d4] }
  | _ => none }
def wotsAdvanceRow : OpenClaim := { program := "ytjemfefkgfoikaadoor", sum := "3cc63002242822ef7e9cd27389a7b0109a4f4807061d0f964e1c6642f22b6959", func := "bootchain/bootchainlaw04.WotsAdvance", spec := "wotsAdvance", inPlace := ["internal/bytealg.MakeNoZero"], unfollowed := true, recurses := true, named := ["bootchain/sha.start", "bootchain/sha.constants"], apart := false, laid := [("bootchain/sha.constants", laid_bootchain_sha_constants), ("bootchain/sha.start", laid_bootchain_sha_start)] }
def WotsAdvanceSaid : Prop := wotsAdvanceRow.holds Tryd.pinned (OpenSpec.ofChange wotsAdvanceSpec)

/-- ITS FALSE NEIGHBOUR: 'it returns false'. Refute it at one input. -/
def wotsAdvanceWrong : ChangeSpec := { name := "wotsAdvance", fn := fun _ => fun
  | [d1, d2, d3, d4] => { results := [.lit (.bool false)], args := [d1, d2, d3, d4] }
  | _ => none }
def WotsAdvanceWrongFalsely : Prop := wotsAdvanceRow.holds Tryd.pinned (OpenSpec.ofChange wotsAdvanceWrong)

/-- 'bootchainlaw04.WotsReduction': WHATEVER THE INPUT: true; the input reads as it did. -/
def wotsReductionSpec : ChangeSpec := { name := "wotsReduction", fn := fun _ => fun
  | [d1, d2, d3, d4] => { results := [.lit (.bool true)], args := [d1, d2, d3, d4] }
  | _ => none }
def wotsReductionRow : OpenClaim := { program := "ytjemfefkgfoikaadoor", sum := "3cc63002242822ef7e9cd27389a7b0109a4f4807061d0f964e1c6642f22b6959", func := "bootchain/bootchainlaw04.WotsReduction", spec := "wotsReduction", inPlace := ["internal/bytealg.MakeNoZero"], unfollowed := true, recurses := true, named := ["bootchain/sha.start", "bootchain/sha.constants"], apart := false, laid := [("bootchain/sha.constants", laid_bootchain_sha_constants), ("bootchain/sha.start", laid_bootchain_sha_start)] }
def WotsReductionSaid : Prop := wotsReductionRow.holds Tryd.pinned (OpenSpec.ofChange wotsReductionSpec)

/-- ITS FALSE NEIGHBOUR: 'it returns false'. Refute it at one input. -/
def wotsReductionWrong : ChangeSpec := { name := "wotsReduction", fn := fun _ => fun
  | [d1, d2, d3, d4] => { results := [.lit (.bool false)], args := [d1, d2, d3, d4] }
  | _ => none }
def WotsReductionWrongFalsely : Prop := wotsReductionRow.holds Tryd.pinned (OpenSpec.ofChange wotsReductionWrong)

/-- 'bootchainlaw05.TreesigMatchesSpec': WHATEVER THE INPUT: true; the input reads as it did. -/
def treesigMatchesSpecSpec : ChangeSpec := { name := "treesigMatchesSpec", fn := fun _ => fun
  | [d] => { results := [.lit (.bool true)], args := [d] }
  | _ => none }
def treesigMatchesSpecRow : OpenClaim := { program := "ytjemfefkgfoikaadoor", sum := "3cc63002242822ef7e9cd27389a7b0109a4f4807061d0f964e1c6642f22b6959", func := "bootchain/bootchainlaw05.TreesigMatchesSpec", spec := "treesigMatchesSpec", inPlace := ["internal/bytealg.MakeNoZero"], unfollowed := true, recurses := true, named := ["bootchain/sha.start", "bootchain/sha.constants"], apart := false, laid := [("bootchain/sha.constants", laid_bootchain_sha_constants), ("bootchain/sha.start", laid_bootchain_sha_start)] }
def TreesigMatchesSpecSaid : Prop := treesigMatchesSpecRow.holds Tryd.pinned (OpenSpec.ofChange treesigMatchesSpecSpec)

/-- ITS FALSE NEIGHBOUR: 'it returns false'. Refute it at one input. -/
def treesigMatchesSpecWrong : ChangeSpec := { name := "treesigMatchesSpec", fn := fun _ => fun
  | [d] => { results := [.lit (.bool false)], args := [d] }
  | _ => none }
def TreesigMatchesSpecWrongFalsely : Prop := treesigMatchesSpecRow.holds Tryd.pinned (OpenSpec.ofChange treesigMatchesSpecWrong)

/-- 'bootchainlaw05.TreesigVerifyMatchesSpec': WHATEVER THE INPUT: true; the input reads as it did. -/
def treesigVerifyMatchesSpecSpec : ChangeSpec := { name := "treesigVerifyMatchesSpec", fn := fun _ => fun
  | [d] => { results := [.lit (.bool true)], args := [d] }
  | _ => none }
def treesigVerifyMatchesSpecRow : OpenClaim := { program := "ytjemfefkgfoikaadoor", sum := "3cc63002242822ef7e9cd27389a7b0109a4f4807061d0f964e1c6642f22b6959", func := "bootchain/bootchainlaw05.TreesigVerifyMatchesSpec", spec := "treesigVerifyMatchesSpec", inPlace := ["internal/bytealg.MakeNoZero"], unfollowed := true, recurses := true, named := ["bootchain/sha.start", "bootchain/sha.constants"], apart := false, laid := [("bootchain/sha.constants", laid_bootchain_sha_constants), ("bootchain/sha.start", laid_bootchain_sha_start)] }
def TreesigVerifyMatchesSpecSaid : Prop := treesigVerifyMatchesSpecRow.holds Tryd.pinned (OpenSpec.ofChange treesigVerifyMatchesSpecSpec)

/-- ITS FALSE NEIGHBOUR: 'it returns false'. Refute it at one input. -/
def treesigVerifyMatchesSpecWrong : ChangeSpec := { name := "treesigVerifyMatchesSpec", fn := fun _ => fun
  | [d] => { results := [.lit (.bool false)], args := [d] }
  | _ => none }
def TreesigVerifyMatchesSpecWrongFalsely : Prop := treesigVerifyMatchesSpecRow.holds Tryd.pinned (OpenSpec.ofChange treesigVerifyMatchesSpecWrong)

/-- 'bootchainlaw05.TreesigVerifiesOwn': WHATEVER THE INPUT: true; the input reads as it did. -/
def treesigVerifiesOwnSpec : ChangeSpec := { name := "treesigVerifiesOwn", fn := fun _ => fun
  | [d] => { results := [.lit (.bool true)], args := [d] }
  | _ => none }
def treesigVerifiesOwnRow : OpenClaim := { program := "ytjemfefkgfoikaadoor", sum := "3cc63002242822ef7e9cd27389a7b0109a4f4807061d0f964e1c6642f22b6959", func := "bootchain/bootchainlaw05.TreesigVerifiesOwn", spec := "treesigVerifiesOwn", inPlace := ["internal/bytealg.MakeNoZero"], unfollowed := true, recurses := true, named := ["bootchain/sha.start", "bootchain/sha.constants"], apart := false, laid := [("bootchain/sha.constants", laid_bootchain_sha_constants), ("bootchain/sha.start", laid_bootchain_sha_start)] }
def TreesigVerifiesOwnSaid : Prop := treesigVerifiesOwnRow.holds Tryd.pinned (OpenSpec.ofChange treesigVerifiesOwnSpec)

/-- ITS FALSE NEIGHBOUR: 'it returns false'. Refute it at one input. -/
def treesigVerifiesOwnWrong : ChangeSpec := { name := "treesigVerifiesOwn", fn := fun _ => fun
  | [d] => { results := [.lit (.bool false)], args := [d] }
  | _ => none }
def TreesigVerifiesOwnWrongFalsely : Prop := treesigVerifiesOwnRow.holds Tryd.pinned (OpenSpec.ofChange treesigVerifiesOwnWrong)

/-- 'bootchainlaw05.TreesigRejectsMalformed': WHATEVER THE INPUT: true; the input reads as it did. -/
def treesigRejectsMalformedSpec : ChangeSpec := { name := "treesigRejectsMalformed", fn := fun _ => fun
  | [d] => { results := [.lit (.bool true)], args := [d] }
  | _ => none }
def treesigRejectsMalformedRow : OpenClaim := { program := "ytjemfefkgfoikaadoor", sum := "3cc63002242822ef7e9cd27389a7b0109a4f4807061d0f964e1c6642f22b6959", func := "bootchain/bootchainlaw05.TreesigRejectsMalformed", spec := "treesigRejectsMalformed", inPlace := ["internal/bytealg.MakeNoZero"], unfollowed := true, recurses := true, named := ["bootchain/sha.start", "bootchain/sha.constants"], apart := false, laid := [("bootchain/sha.constants", laid_bootchain_sha_constants), ("bootchain/sha.start", laid_bootchain_sha_start)] }
def TreesigRejectsMalformedSaid : Prop := treesigRejectsMalformedRow.holds Tryd.pinned (OpenSpec.ofChange treesigRejectsMalformedSpec)

/-- ITS FALSE NEIGHBOUR: 'it returns false'. Refute it at one input. -/
def treesigRejectsMalformedWrong : ChangeSpec := { name := "treesigRejectsMalformed", fn := fun _ => fun
  | [d] => { results := [.lit (.bool false)], args := [d] }
  | _ => none }
def TreesigRejectsMalformedWrongFalsely : Prop := treesigRejectsMalformedRow.holds Tryd.pinned (OpenSpec.ofChange treesigRejectsMalformedWrong)

/-- 'bootchainlaw05.TreesigBindsKey': WHATEVER THE INPUT: true; the input reads as it did. -/
def treesigBindsKeySpec : ChangeSpec := { name := "treesigBindsKey", fn := fun _ => fun
  | [d] => { results := [.lit (.bool true)], args := [d] }
  | _ => none }
def treesigBindsKeyRow : OpenClaim := { program := "ytjemfefkgfoikaadoor", sum := "3cc63002242822ef7e9cd27389a7b0109a4f4807061d0f964e1c6642f22b6959", func := "bootchain/bootchainlaw05.TreesigBindsKey", spec := "treesigBindsKey", inPlace := ["internal/bytealg.MakeNoZero"], unfollowed := true, recurses := true, named := ["bootchain/sha.start", "bootchain/sha.constants"], apart := false, laid := [("bootchain/sha.constants", laid_bootchain_sha_constants), ("bootchain/sha.start", laid_bootchain_sha_start)] }
def TreesigBindsKeySaid : Prop := treesigBindsKeyRow.holds Tryd.pinned (OpenSpec.ofChange treesigBindsKeySpec)

/-- ITS FALSE NEIGHBOUR: 'it returns false'. Refute it at one input. -/
def treesigBindsKeyWrong : ChangeSpec := { name := "treesigBindsKey", fn := fun _ => fun
  | [d] => { results := [.lit (.bool false)], args := [d] }
  | _ => none }
def TreesigBindsKeyWrongFalsely : Prop := treesigBindsKeyRow.holds Tryd.pinned (OpenSpec.ofChange treesigBindsKeyWrong)

/-- 'bootchainlaw05.TreesigSharesPaths': WHATEVER THE INPUT: true; the input reads as it did. -/
def treesigSharesPathsSpec : ChangeSpec := { name := "treesigSharesPaths", fn := fun _ => fun
  | [d1, d2, d3] => { results := [.lit (.bool true)], args := [d1, d2, d3] }
  | _ => none }
def treesigSharesPathsRow : OpenClaim := { program := "ytjemfefkgfoikaadoor", sum := "3cc63002242822ef7e9cd27389a7b0109a4f4807061d0f964e1c6642f22b6959", func := "bootchain/bootchainlaw05.TreesigSharesPaths", spec := "treesigSharesPaths", inPlace := ["internal/bytealg.MakeNoZero"], unfollowed := true, recurses := true, named := ["bootchain/sha.start", "bootchain/sha.constants"], apart := false, laid := [("bootchain/sha.constants", laid_bootchain_sha_constants), ("bootchain/sha.start", laid_bootchain_sha_start)] }
def TreesigSharesPathsSaid : Prop := treesigSharesPathsRow.holds Tryd.pinned (OpenSpec.ofChange treesigSharesPathsSpec)

/-- ITS FALSE NEIGHBOUR: 'it returns false'. Refute it at one input. -/
def treesigSharesPathsWrong : ChangeSpec := { name := "treesigSharesPaths", fn := fun _ => fun
  | [d1, d2, d3] => { results := [.lit (.bool false)], args := [d1, d2, d3] }
  | _ => none }
def TreesigSharesPathsWrongFalsely : Prop := treesigSharesPathsRow.holds Tryd.pinned (OpenSpec.ofChange treesigSharesPathsWrong)

/- THE SECOND FORM. 'bulk': how many values and letters a reading holds, each counted each time it is reached (what is shared counts as often as it is met; a slice's spare places count too). A statement '..UptoSaid' is the law's where the arguments, and the package variables that the reading takes, are together of bulk at most 1048576: NARROWER than '..Said'. Prove '..Said' where nothing that the law and all that it calls make is longer than what came in: it says more and counts as full. Else prove '..UptoSaid'. A law counts once. -/
mutual
def uptoBulk {H : Type} : DataW H → Nat
  | .lit (.string bytes) => bytes.length + 1
  | .lit _ => 1
  | .nil => 1
  | .ptr d => uptoBulk d + 1
  | .slice elems spare => uptoBulkAll elems + uptoBulkAll spare + 1
  | .agg parts => uptoBulkAll parts + 1
  | .iface _ d => uptoBulk d + 1
  | .map entries => uptoBulkEntries entries + 1
  | .held _ => 1
def uptoBulkAll {H : Type} : List (DataW H) → Nat
  | [] => 0
  | d :: r => uptoBulk d + uptoBulkAll r
def uptoBulkEntries {H : Type} : List (Lit × DataW H) → Nat
  | [] => 0
  | x :: r => uptoBulkEntry x + uptoBulkEntries r
def uptoBulkEntry {H : Type} : Lit × DataW H → Nat
  | (.string bytes, d) => bytes.length + uptoBulk d + 1
  | (_, d) => uptoBulk d + 1
 end
def uptoSmall : (H : Type) → List (DataW H) → Bool := fun _ ds => decide (uptoBulkAll ds ≤ 1048576)
def OpenSpec.upto (s : _root_.Go.ChangeSpec) : _root_.Go.OpenSpec := { _root_.Go.OpenSpec.ofChange s with cond := some uptoSmall }

/-- 'bootchainlaw04.WotsMatchesSpec', WHERE WHAT IT READS IS OF BULK AT MOST 1048576: true; the input reads as it did. -/
def wotsMatchesSpecUptoRow : OpenClaim := { program := "ytjemfefkgfoikaadoor", sum := "3cc63002242822ef7e9cd27389a7b0109a4f4807061d0f964e1c6642f22b6959", func := "bootchain/bootchainlaw04.WotsMatchesSpec", spec := "wotsMatchesSpec", inPlace := ["internal/bytealg.MakeNoZero"], unfollowed := true, recurses := true, named := ["bootchain/sha.start", "bootchain/sha.constants"], apart := false, laid := [("bootchain/sha.constants", laid_bootchain_sha_constants), ("bootchain/sha.start", laid_bootchain_sha_start)], narrowed := true }
def WotsMatchesSpecUptoSaid : Prop := wotsMatchesSpecUptoRow.holds Tryd.pinned (OpenSpec.upto wotsMatchesSpecSpec)

/-- 'bootchainlaw04.WotsVerifies', WHERE WHAT IT READS IS OF BULK AT MOST 1048576: true; the input reads as it did. -/
def wotsVerifiesUptoRow : OpenClaim := { program := "ytjemfefkgfoikaadoor", sum := "3cc63002242822ef7e9cd27389a7b0109a4f4807061d0f964e1c6642f22b6959", func := "bootchain/bootchainlaw04.WotsVerifies", spec := "wotsVerifies", inPlace := ["internal/bytealg.MakeNoZero"], unfollowed := true, recurses := true, named := ["bootchain/sha.start", "bootchain/sha.constants"], apart := false, laid := [("bootchain/sha.constants", laid_bootchain_sha_constants), ("bootchain/sha.start", laid_bootchain_sha_start)], narrowed := true }
def WotsVerifiesUptoSaid : Prop := wotsVerifiesUptoRow.holds Tryd.pinned (OpenSpec.upto wotsVerifiesSpec)

/-- 'bootchainlaw04.WotsDigits', WHERE WHAT IT READS IS OF BULK AT MOST 1048576: true; the input reads as it did. -/
def wotsDigitsUptoRow : OpenClaim := { program := "ytjemfefkgfoikaadoor", sum := "3cc63002242822ef7e9cd27389a7b0109a4f4807061d0f964e1c6642f22b6959", func := "bootchain/bootchainlaw04.WotsDigits", spec := "wotsDigits", inPlace := ["internal/bytealg.MakeNoZero"], unfollowed := true, recurses := true, named := ["bootchain/sha.start", "bootchain/sha.constants"], apart := false, laid := [("bootchain/sha.constants", laid_bootchain_sha_constants), ("bootchain/sha.start", laid_bootchain_sha_start)], narrowed := true }
def WotsDigitsUptoSaid : Prop := wotsDigitsUptoRow.holds Tryd.pinned (OpenSpec.upto wotsDigitsSpec)

/-- 'bootchainlaw04.WotsAntichain', WHERE WHAT IT READS IS OF BULK AT MOST 1048576: true; the input reads as it did. -/
def wotsAntichainUptoRow : OpenClaim := { program := "ytjemfefkgfoikaadoor", sum := "3cc63002242822ef7e9cd27389a7b0109a4f4807061d0f964e1c6642f22b6959", func := "bootchain/bootchainlaw04.WotsAntichain", spec := "wotsAntichain", inPlace := ["internal/bytealg.MakeNoZero"], unfollowed := true, recurses := true, named := ["bootchain/sha.start", "bootchain/sha.constants"], apart := false, laid := [("bootchain/sha.constants", laid_bootchain_sha_constants), ("bootchain/sha.start", laid_bootchain_sha_start)], narrowed := true }
def WotsAntichainUptoSaid : Prop := wotsAntichainUptoRow.holds Tryd.pinned (OpenSpec.upto wotsAntichainSpec)

/-- 'bootchainlaw04.WotsAdvance', WHERE WHAT IT READS IS OF BULK AT MOST 1048576: true; the input reads as it did. -/
def wotsAdvanceUptoRow : OpenClaim := { program := "ytjemfefkgfoikaadoor", sum := "3cc63002242822ef7e9cd27389a7b0109a4f4807061d0f964e1c6642f22b6959", func := "bootchain/bootchainlaw04.WotsAdvance", spec := "wotsAdvance", inPlace := ["internal/bytealg.MakeNoZero"], unfollowed := true, recurses := true, named := ["bootchain/sha.start", "bootchain/sha.constants"], apart := false, laid := [("bootchain/sha.constants", laid_bootchain_sha_constants), ("bootchain/sha.start", laid_bootchain_sha_start)], narrowed := true }
def WotsAdvanceUptoSaid : Prop := wotsAdvanceUptoRow.holds Tryd.pinned (OpenSpec.upto wotsAdvanceSpec)

/-- 'bootchainlaw04.WotsReduction', WHERE WHAT IT READS IS OF BULK AT MOST 1048576: true; the input reads as it did. -/
def wotsReductionUptoRow : OpenClaim := { program := "ytjemfefkgfoikaadoor", sum := "3cc63002242822ef7e9cd27389a7b0109a4f4807061d0f964e1c6642f22b6959", func := "bootchain/bootchainlaw04.WotsReduction", spec := "wotsReduction", inPlace := ["internal/bytealg.MakeNoZero"], unfollowed := true, recurses := true, named := ["bootchain/sha.start", "bootchain/sha.constants"], apart := false, laid := [("bootchain/sha.constants", laid_bootchain_sha_constants), ("bootchain/sha.start", laid_bootchain_sha_start)], narrowed := true }
def WotsReductionUptoSaid : Prop := wotsReductionUptoRow.holds Tryd.pinned (OpenSpec.upto wotsReductionSpec)

/-- 'bootchainlaw05.TreesigMatchesSpec', WHERE WHAT IT READS IS OF BULK AT MOST 1048576: true; the input reads as it did. -/
def treesigMatchesSpecUptoRow : OpenClaim := { program := "ytjemfefkgfoikaadoor", sum := "3cc63002242822ef7e9cd27389a7b0109a4f4807061d0f964e1c6642f22b6959", func := "bootchain/bootchainlaw05.TreesigMatchesSpec", spec := "treesigMatchesSpec", inPlace := ["internal/bytealg.MakeNoZero"], unfollowed := true, recurses := true, named := ["bootchain/sha.start", "bootchain/sha.constants"], apart := false, laid := [("bootchain/sha.constants", laid_bootchain_sha_constants), ("bootchain/sha.start", laid_bootchain_sha_start)], narrowed := true }
def TreesigMatchesSpecUptoSaid : Prop := treesigMatchesSpecUptoRow.holds Tryd.pinned (OpenSpec.upto treesigMatchesSpecSpec)

/-- 'bootchainlaw05.TreesigVerifyMatchesSpec', WHERE WHAT IT READS IS OF BULK AT MOST 1048576: true; the input reads as it did. -/
def treesigVerifyMatchesSpecUptoRow : OpenClaim := { program := "ytjemfefkgfoikaadoor", sum := "3cc63002242822ef7e9cd27389a7b0109a4f4807061d0f964e1c6642f22b6959", func := "bootchain/bootchainlaw05.TreesigVerifyMatchesSpec", spec := "treesigVerifyMatchesSpec", inPlace := ["internal/bytealg.MakeNoZero"], unfollowed := true, recurses := true, named := ["bootchain/sha.start", "bootchain/sha.constants"], apart := false, laid := [("bootchain/sha.constants", laid_bootchain_sha_constants), ("bootchain/sha.start", laid_bootchain_sha_start)], narrowed := true }
def TreesigVerifyMatchesSpecUptoSaid : Prop := treesigVerifyMatchesSpecUptoRow.holds Tryd.pinned (OpenSpec.upto treesigVerifyMatchesSpecSpec)

/-- 'bootchainlaw05.TreesigVerifiesOwn', WHERE WHAT IT READS IS OF BULK AT MOST 1048576: true; the input reads as it did. -/
def treesigVerifiesOwnUptoRow : OpenClaim := { program := "ytjemfefkgfoikaadoor", sum := "3cc63002242822ef7e9cd27389a7b0109a4f4807061d0f964e1c6642f22b6959", func := "bootchain/bootchainlaw05.TreesigVerifiesOwn", spec := "treesigVerifiesOwn", inPlace := ["internal/bytealg.MakeNoZero"], unfollowed := true, recurses := true, named := ["bootchain/sha.start", "bootchain/sha.constants"], apart := false, laid := [("bootchain/sha.constants", laid_bootchain_sha_constants), ("bootchain/sha.start", laid_bootchain_sha_start)], narrowed := true }
def TreesigVerifiesOwnUptoSaid : Prop := treesigVerifiesOwnUptoRow.holds Tryd.pinned (OpenSpec.upto treesigVerifiesOwnSpec)

/-- 'bootchainlaw05.TreesigRejectsMalformed', WHERE WHAT IT READS IS OF BULK AT MOST 1048576: true; the input reads as it did. -/
def treesigRejectsMalformedUptoRow : OpenClaim := { program := "ytjemfefkgfoikaadoor", sum := "3cc63002242822ef7e9cd27389a7b0109a4f4807061d0f964e1c6642f22b6959", func := "bootchain/bootchainlaw05.TreesigRejectsMalformed", spec := "treesigRejectsMalformed", inPlace := ["internal/bytealg.MakeNoZero"], unfollowed := true, recurses := true, named := ["bootchain/sha.start", "bootchain/sha.constants"], apart := false, laid := [("bootchain/sha.constants", laid_bootchain_sha_constants), ("bootchain/sha.start", laid_bootchain_sha_start)], narrowed := true }
def TreesigRejectsMalformedUptoSaid : Prop := treesigRejectsMalformedUptoRow.holds Tryd.pinned (OpenSpec.upto treesigRejectsMalformedSpec)

/-- 'bootchainlaw05.TreesigBindsKey', WHERE WHAT IT READS IS OF BULK AT MOST 1048576: true; the input reads as it did. -/
def treesigBindsKeyUptoRow : OpenClaim := { program := "ytjemfefkgfoikaadoor", sum := "3cc63002242822ef7e9cd27389a7b0109a4f4807061d0f964e1c6642f22b6959", func := "bootchain/bootchainlaw05.TreesigBindsKey", spec := "treesigBindsKey", inPlace := ["internal/bytealg.MakeNoZero"], unfollowed := true, recurses := true, named := ["bootchain/sha.start", "bootchain/sha.constants"], apart := false, laid := [("bootchain/sha.constants", laid_bootchain_sha_constants), ("bootchain/sha.start", laid_bootchain_sha_start)], narrowed := true }
def TreesigBindsKeyUptoSaid : Prop := treesigBindsKeyUptoRow.holds Tryd.pinned (OpenSpec.upto treesigBindsKeySpec)

/-- 'bootchainlaw05.TreesigSharesPaths', WHERE WHAT IT READS IS OF BULK AT MOST 1048576: true; the input reads as it did. -/
def treesigSharesPathsUptoRow : OpenClaim := { program := "ytjemfefkgfoikaadoor", sum := "3cc63002242822ef7e9cd27389a7b0109a4f4807061d0f964e1c6642f22b6959", func := "bootchain/bootchainlaw05.TreesigSharesPaths", spec := "treesigSharesPaths", inPlace := ["internal/bytealg.MakeNoZero"], unfollowed := true, recurses := true, named := ["bootchain/sha.start", "bootchain/sha.constants"], apart := false, laid := [("bootchain/sha.constants", laid_bootchain_sha_constants), ("bootchain/sha.start", laid_bootchain_sha_start)], narrowed := true }
def TreesigSharesPathsUptoSaid : Prop := treesigSharesPathsUptoRow.holds Tryd.pinned (OpenSpec.upto treesigSharesPathsSpec)

end Rows
end Go.Proofs.YtjemfefkgfoikaaDoor
