/-
  NARROWER THAN 'FOR EVERY INPUT', by the rows' own cells (each row's printed sentence says how): BoxTampered: laid · PageNew: laid · SealEncoding: laid · StoreGetMatchesSpec: laid · StorePutMatchesSpec: laid · StoreAtomic: laid · StoreIndependent: laid · StoreAccesses: laid · StoreReads: laid.
  DERIVED. THE GIVEN ROWS OF THIS SEAT. 9 by the template 'for every input the law returns true; each argument reads behind the call as it read before'; 0 by the template 'total and deterministic' (their statements: YtoefmncdloffaaaDoorTotals.lean).
  GIVEN WITH THE SEED: the statements are not yours to turn. If you find one false, say at which input.
  Laid BY PROGRAM, IN A SANDBOX (cutbox-rows.mjs): the forced cells as the released guide's own fill.sh prints them over the translation e43517b7a856665c… (all of the seat's roots in one cut). By AI agents, Wed Nov 11 2026. No macro, syntax, notation, axiom, sorry.
-/
import Derived.Test.YtoefmncdloffaaaDoorChecked
import GoSem.Claim
import GoSem.ClaimJoined
import GoSem.ClaimMapViews
import Derived.JoinedTies
import Derived.KernelRfl
namespace Go.Proofs.YtoefmncdloffaaaDoor
/- THE CELL 'sum', in the pinned program and in every row, IS THE sha256 OF THE DUMP (.gsa) THAT YtoefmncdloffaaaDoorProg.lean LOADS. Nothing in Lean hashes anything: it is a label: what it is worth is what the hold of that sum in a sandbox is worth. -/
noncomputable def Tryd.pinned : Pinned := { name := "ytoefmncdloffaaadoor", sum := "e43517b7a856665c5ea979e78092d1d3272e0b1b1d0c84b17cd8f8ffd00ec174", checked := Tryd.checked }
namespace Rows
def none {H : Type} : Left H := { results := [], args := [] }

/- WHAT THE LISTED PACKAGE-LEVEL VARIABLES READ AS WHEN THE CALL BEGINS. Each datum BY PROGRAM (the guide's laid-datum.mjs) off the statement by which the dump's own 'gosem.cut.vars' lays the variable. In a bare row this is a premise. The card (YtoefmncdloffaaaDoorCards.lean) ties it to the program's text. -/
def laid_bootchain_sha_constants {H : Type} : DataW H := .agg [.lit (.int .u32 1116352408), .lit (.int .u32 1899447441), .lit (.int .u32 3049323471), .lit (.int .u32 3921009573), .lit (.int .u32 961987163), .lit (.int .u32 1508970993), .lit (.int .u32 2453635748), .lit (.int .u32 2870763221), .lit (.int .u32 3624381080), .lit (.int .u32 310598401), .lit (.int .u32 607225278), .lit (.int .u32 1426881987), .lit (.int .u32 1925078388), .lit (.int .u32 2162078206), .lit (.int .u32 2614888103), .lit (.int .u32 3248222580), .lit (.int .u32 3835390401), .lit (.int .u32 4022224774), .lit (.int .u32 264347078), .lit (.int .u32 604807628), .lit (.int .u32 770255983), .lit (.int .u32 1249150122), .lit (.int .u32 1555081692), .lit (.int .u32 1996064986), .lit (.int .u32 2554220882), .lit (.int .u32 2821834349), .lit (.int .u32 2952996808), .lit (.int .u32 3210313671), .lit (.int .u32 3336571891), .lit (.int .u32 3584528711), .lit (.int .u32 113926993), .lit (.int .u32 338241895), .lit (.int .u32 666307205), .lit (.int .u32 773529912), .lit (.int .u32 1294757372), .lit (.int .u32 1396182291), .lit (.int .u32 1695183700), .lit (.int .u32 1986661051), .lit (.int .u32 2177026350), .lit (.int .u32 2456956037), .lit (.int .u32 2730485921), .lit (.int .u32 2820302411), .lit (.int .u32 3259730800), .lit (.int .u32 3345764771), .lit (.int .u32 3516065817), .lit (.int .u32 3600352804), .lit (.int .u32 4094571909), .lit (.int .u32 275423344), .lit (.int .u32 430227734), .lit (.int .u32 506948616), .lit (.int .u32 659060556), .lit (.int .u32 883997877), .lit (.int .u32 958139571), .lit (.int .u32 1322822218), .lit (.int .u32 1537002063), .lit (.int .u32 1747873779), .lit (.int .u32 1955562222), .lit (.int .u32 2024104815), .lit (.int .u32 2227730452), .lit (.int .u32 2361852424), .lit (.int .u32 2428436474), .lit (.int .u32 2756734187), .lit (.int .u32 3204031479), .lit (.int .u32 3329325298)]
def laid_bootchain_sha_start {H : Type} : DataW H := .agg [.lit (.int .u32 1779033703), .lit (.int .u32 3144134277), .lit (.int .u32 1013904242), .lit (.int .u32 2773480762), .lit (.int .u32 1359893119), .lit (.int .u32 2600822924), .lit (.int .u32 528734635), .lit (.int .u32 1541459225)]

/-- 'bootchainlaw06.BoxTampered': WHATEVER THE INPUT: true; the input reads as it did. -/
def boxTamperedSpec : ChangeSpec := { name := "boxTampered", fn := fun _ => fun
  | [d1, d2, d3, d4, d5, d6] => { results := [.lit (.bool true)], args := [d1, d2, d3, d4, d5, d6] }
  | _ => none }
def boxTamperedRow : OpenClaim := { program := "ytoefmncdloffaaadoor", sum := "e43517b7a856665c5ea979e78092d1d3272e0b1b1d0c84b17cd8f8ffd00ec174", func := "bootchain/bootchainlaw06.BoxTampered", spec := "boxTampered", inPlace := ["internal/bytealg.MakeNoZero"], unfollowed := true, recurses := true, named := ["bootchain/sha.start", "bootchain/sha.constants"], apart := false, laid := [("bootchain/sha.constants", laid_bootchain_sha_constants), ("bootchain/sha.start", laid_bootchain_sha_start)] }
def BoxTamperedSaid : Prop := boxTamperedRow.holds Tryd.pinned (OpenSpec.ofChange boxTamperedSpec)

/-- ITS FALSE NEIGHBOUR: 'it returns false'. Refute it at one input. -/
def boxTamperedWrong : ChangeSpec := { name := "boxTampered", fn := fun _ => fun
  | [d1, d2, d3, d4, d5, d6] => { results := [.lit (.bool false)], args := [d1, d2, d3, d4, d5, d6] }
  | _ => none }
def BoxTamperedWrongFalsely : Prop := boxTamperedRow.holds Tryd.pinned (OpenSpec.ofChange boxTamperedWrong)

/-- 'bootchainlaw33.PageNew': WHATEVER THE INPUT: true; the input reads as it did. -/
def pageNewSpec : ChangeSpec := { name := "pageNew", fn := fun _ => fun
  | [d1, d2] => { results := [.lit (.bool true)], args := [d1, d2] }
  | _ => none }
def pageNewRow : OpenClaim := { program := "ytoefmncdloffaaadoor", sum := "e43517b7a856665c5ea979e78092d1d3272e0b1b1d0c84b17cd8f8ffd00ec174", func := "bootchain/bootchainlaw33.PageNew", spec := "pageNew", inPlace := ["internal/bytealg.MakeNoZero"], unfollowed := true, recurses := true, named := ["bootchain/sha.start", "bootchain/sha.constants"], apart := false, laid := [("bootchain/sha.constants", laid_bootchain_sha_constants), ("bootchain/sha.start", laid_bootchain_sha_start)] }
def PageNewSaid : Prop := pageNewRow.holds Tryd.pinned (OpenSpec.ofChange pageNewSpec)

/-- ITS FALSE NEIGHBOUR: 'it returns false'. Refute it at one input. -/
def pageNewWrong : ChangeSpec := { name := "pageNew", fn := fun _ => fun
  | [d1, d2] => { results := [.lit (.bool false)], args := [d1, d2] }
  | _ => none }
def PageNewWrongFalsely : Prop := pageNewRow.holds Tryd.pinned (OpenSpec.ofChange pageNewWrong)

/-- 'bootchainlaw31.SealEncoding': WHATEVER THE INPUT: true; the input reads as it did. -/
def sealEncodingSpec : ChangeSpec := { name := "sealEncoding", fn := fun _ => fun
  | [d1, d2] => { results := [.lit (.bool true)], args := [d1, d2] }
  | _ => none }
def sealEncodingRow : OpenClaim := { program := "ytoefmncdloffaaadoor", sum := "e43517b7a856665c5ea979e78092d1d3272e0b1b1d0c84b17cd8f8ffd00ec174", func := "bootchain/bootchainlaw31.SealEncoding", spec := "sealEncoding", inPlace := ["internal/bytealg.MakeNoZero"], unfollowed := true, recurses := true, named := ["bootchain/sha.start", "bootchain/sha.constants"], apart := false, laid := [("bootchain/sha.constants", laid_bootchain_sha_constants), ("bootchain/sha.start", laid_bootchain_sha_start)] }
def SealEncodingSaid : Prop := sealEncodingRow.holds Tryd.pinned (OpenSpec.ofChange sealEncodingSpec)

/-- ITS FALSE NEIGHBOUR: 'it returns false'. Refute it at one input. -/
def sealEncodingWrong : ChangeSpec := { name := "sealEncoding", fn := fun _ => fun
  | [d1, d2] => { results := [.lit (.bool false)], args := [d1, d2] }
  | _ => none }
def SealEncodingWrongFalsely : Prop := sealEncodingRow.holds Tryd.pinned (OpenSpec.ofChange sealEncodingWrong)

/-- 'bootchainlaw10.StoreGetMatchesSpec': WHATEVER THE INPUT: true; the input reads as it did. -/
def storeGetMatchesSpecSpec : ChangeSpec := { name := "storeGetMatchesSpec", fn := fun _ => fun
  | [d1, d2, d3] => { results := [.lit (.bool true)], args := [d1, d2, d3] }
  | _ => none }
def storeGetMatchesSpecRow : OpenClaim := { program := "ytoefmncdloffaaadoor", sum := "e43517b7a856665c5ea979e78092d1d3272e0b1b1d0c84b17cd8f8ffd00ec174", func := "bootchain/bootchainlaw10.StoreGetMatchesSpec", spec := "storeGetMatchesSpec", inPlace := ["internal/abi.NoEscape", "internal/bytealg.MakeNoZero"], unfollowed := true, recurses := true, named := ["bootchain/sha.start", "bootchain/sha.constants"], apart := false, laid := [("bootchain/sha.constants", laid_bootchain_sha_constants), ("bootchain/sha.start", laid_bootchain_sha_start)] }
def StoreGetMatchesSpecSaid : Prop := storeGetMatchesSpecRow.holds Tryd.pinned (OpenSpec.ofChange storeGetMatchesSpecSpec)

/-- ITS FALSE NEIGHBOUR: 'it returns false'. Refute it at one input. -/
def storeGetMatchesSpecWrong : ChangeSpec := { name := "storeGetMatchesSpec", fn := fun _ => fun
  | [d1, d2, d3] => { results := [.lit (.bool false)], args := [d1, d2, d3] }
  | _ => none }
def StoreGetMatchesSpecWrongFalsely : Prop := storeGetMatchesSpecRow.holds Tryd.pinned (OpenSpec.ofChange storeGetMatchesSpecWrong)

/-- 'bootchainlaw10.StorePutMatchesSpec': WHATEVER THE INPUT: true; the input reads as it did. -/
def storePutMatchesSpecSpec : ChangeSpec := { name := "storePutMatchesSpec", fn := fun _ => fun
  | [d1, d2, d3] => { results := [.lit (.bool true)], args := [d1, d2, d3] }
  | _ => none }
def storePutMatchesSpecRow : OpenClaim := { program := "ytoefmncdloffaaadoor", sum := "e43517b7a856665c5ea979e78092d1d3272e0b1b1d0c84b17cd8f8ffd00ec174", func := "bootchain/bootchainlaw10.StorePutMatchesSpec", spec := "storePutMatchesSpec", inPlace := ["internal/abi.NoEscape", "internal/bytealg.MakeNoZero"], unfollowed := true, recurses := true, named := ["bootchain/sha.start", "bootchain/sha.constants"], apart := false, laid := [("bootchain/sha.constants", laid_bootchain_sha_constants), ("bootchain/sha.start", laid_bootchain_sha_start)] }
def StorePutMatchesSpecSaid : Prop := storePutMatchesSpecRow.holds Tryd.pinned (OpenSpec.ofChange storePutMatchesSpecSpec)

/-- ITS FALSE NEIGHBOUR: 'it returns false'. Refute it at one input. -/
def storePutMatchesSpecWrong : ChangeSpec := { name := "storePutMatchesSpec", fn := fun _ => fun
  | [d1, d2, d3] => { results := [.lit (.bool false)], args := [d1, d2, d3] }
  | _ => none }
def StorePutMatchesSpecWrongFalsely : Prop := storePutMatchesSpecRow.holds Tryd.pinned (OpenSpec.ofChange storePutMatchesSpecWrong)

/-- 'bootchainlaw10.StoreAtomic': WHATEVER THE INPUT: true; the input reads as it did. -/
def storeAtomicSpec : ChangeSpec := { name := "storeAtomic", fn := fun _ => fun
  | [d] => { results := [.lit (.bool true)], args := [d] }
  | _ => none }
def storeAtomicRow : OpenClaim := { program := "ytoefmncdloffaaadoor", sum := "e43517b7a856665c5ea979e78092d1d3272e0b1b1d0c84b17cd8f8ffd00ec174", func := "bootchain/bootchainlaw10.StoreAtomic", spec := "storeAtomic", inPlace := ["internal/abi.NoEscape", "internal/bytealg.MakeNoZero"], unfollowed := true, recurses := true, named := ["bootchain/sha.start", "bootchain/sha.constants"], apart := false, laid := [("bootchain/sha.constants", laid_bootchain_sha_constants), ("bootchain/sha.start", laid_bootchain_sha_start)] }
def StoreAtomicSaid : Prop := storeAtomicRow.holds Tryd.pinned (OpenSpec.ofChange storeAtomicSpec)

/-- ITS FALSE NEIGHBOUR: 'it returns false'. Refute it at one input. -/
def storeAtomicWrong : ChangeSpec := { name := "storeAtomic", fn := fun _ => fun
  | [d] => { results := [.lit (.bool false)], args := [d] }
  | _ => none }
def StoreAtomicWrongFalsely : Prop := storeAtomicRow.holds Tryd.pinned (OpenSpec.ofChange storeAtomicWrong)

/-- 'bootchainlaw10.StoreIndependent': WHATEVER THE INPUT: true; the input reads as it did. -/
def storeIndependentSpec : ChangeSpec := { name := "storeIndependent", fn := fun _ => fun
  | [d] => { results := [.lit (.bool true)], args := [d] }
  | _ => none }
def storeIndependentRow : OpenClaim := { program := "ytoefmncdloffaaadoor", sum := "e43517b7a856665c5ea979e78092d1d3272e0b1b1d0c84b17cd8f8ffd00ec174", func := "bootchain/bootchainlaw10.StoreIndependent", spec := "storeIndependent", inPlace := ["internal/abi.NoEscape", "internal/bytealg.MakeNoZero"], unfollowed := true, recurses := true, named := ["bootchain/sha.start", "bootchain/sha.constants"], apart := false, laid := [("bootchain/sha.constants", laid_bootchain_sha_constants), ("bootchain/sha.start", laid_bootchain_sha_start)] }
def StoreIndependentSaid : Prop := storeIndependentRow.holds Tryd.pinned (OpenSpec.ofChange storeIndependentSpec)

/-- ITS FALSE NEIGHBOUR: 'it returns false'. Refute it at one input. -/
def storeIndependentWrong : ChangeSpec := { name := "storeIndependent", fn := fun _ => fun
  | [d] => { results := [.lit (.bool false)], args := [d] }
  | _ => none }
def StoreIndependentWrongFalsely : Prop := storeIndependentRow.holds Tryd.pinned (OpenSpec.ofChange storeIndependentWrong)

/-- 'bootchainlaw10.StoreAccesses': WHATEVER THE INPUT: true; the input reads as it did. -/
def storeAccessesSpec : ChangeSpec := { name := "storeAccesses", fn := fun _ => fun
  | [d] => { results := [.lit (.bool true)], args := [d] }
  | _ => none }
def storeAccessesRow : OpenClaim := { program := "ytoefmncdloffaaadoor", sum := "e43517b7a856665c5ea979e78092d1d3272e0b1b1d0c84b17cd8f8ffd00ec174", func := "bootchain/bootchainlaw10.StoreAccesses", spec := "storeAccesses", inPlace := ["internal/abi.NoEscape", "internal/bytealg.MakeNoZero"], unfollowed := true, recurses := true, named := ["bootchain/sha.start", "bootchain/sha.constants"], apart := false, laid := [("bootchain/sha.constants", laid_bootchain_sha_constants), ("bootchain/sha.start", laid_bootchain_sha_start)] }
def StoreAccessesSaid : Prop := storeAccessesRow.holds Tryd.pinned (OpenSpec.ofChange storeAccessesSpec)

/-- ITS FALSE NEIGHBOUR: 'it returns false'. Refute it at one input. -/
def storeAccessesWrong : ChangeSpec := { name := "storeAccesses", fn := fun _ => fun
  | [d] => { results := [.lit (.bool false)], args := [d] }
  | _ => none }
def StoreAccessesWrongFalsely : Prop := storeAccessesRow.holds Tryd.pinned (OpenSpec.ofChange storeAccessesWrong)

/-- 'bootchainlaw10.StoreReads': WHATEVER THE INPUT: true; the input reads as it did. -/
def storeReadsSpec : ChangeSpec := { name := "storeReads", fn := fun _ => fun
  | [d1, d2, d3, d4] => { results := [.lit (.bool true)], args := [d1, d2, d3, d4] }
  | _ => none }
def storeReadsRow : OpenClaim := { program := "ytoefmncdloffaaadoor", sum := "e43517b7a856665c5ea979e78092d1d3272e0b1b1d0c84b17cd8f8ffd00ec174", func := "bootchain/bootchainlaw10.StoreReads", spec := "storeReads", inPlace := ["internal/abi.NoEscape", "internal/bytealg.MakeNoZero"], unfollowed := true, recurses := true, named := ["bootchain/sha.start", "bootchain/sha.constants"], apart := false, laid := [("bootchain/sha.constants", laid_bootchain_sha_constants), ("bootchain/sha.start", laid_bootchain_sha_start)] }
def StoreReadsSaid : Prop := storeReadsRow.holds Tryd.pinned (OpenSpec.ofChange storeReadsSpec)

/-- ITS FALSE NEIGHBOUR: 'it returns false'. Refute it at one input. -/
def storeReadsWrong : ChangeSpec := { name := "storeReads", fn := fun _ => fun
  | [d1, d2, d3, d4] => { results := [.lit (.bool false)], args := [d1, d2, d3, d4] }
  | _ => none }
def StoreReadsWrongFalsely : Prop := storeReadsRow.holds Tryd.pinned (OpenSpec.ofChange storeReadsWrong)

/- THE SECOND FORM. 'bulk': how many values and letters a reading holds, each counted each time it is reached (what is shared counts as often as it is met; a slice's spare places count too). A statement '..UptoSaid' is the law's where the arguments, and the package variables that the reading takes, are together of bulk at most 1048576: NARROWER than '..Said'. Prove '..Said' where nothing that the law and all that it calls make is longer than what came in: it says more and counts as full. Else prove '..UptoSaid'. A law counts once. -/
mutual
def uptoBulk {H : Type} : DataW H → Nat
  | .lit (.string bytes) => bytes.length + 1
  | .lit _ => 1
  | .nil => 1
  | .ptr d => uptoBulk d + 1
  | .slice elems spare => uptoBulkAll elems + uptoBulkAll spare + 1
  | .agg parts => uptoBulkAll parts + 1
  | .iface _ d => uptoBulk d + 1
  | .map entries => uptoBulkEntries entries + 1
  | .held _ => 1
def uptoBulkAll {H : Type} : List (DataW H) → Nat
  | [] => 0
  | d :: r => uptoBulk d + uptoBulkAll r
def uptoBulkEntries {H : Type} : List (Lit × DataW H) → Nat
  | [] => 0
  | x :: r => uptoBulkEntry x + uptoBulkEntries r
def uptoBulkEntry {H : Type} : Lit × DataW H → Nat
  | (.string bytes, d) => bytes.length + uptoBulk d + 1
  | (_, d) => uptoBulk d + 1
 end
def uptoSmall : (H : Type) → List (DataW H) → Bool := fun _ ds => decide (uptoBulkAll ds ≤ 1048576)
def OpenSpec.upto (s : _root_.Go.ChangeSpec) : _root_.Go.OpenSpec := { _root_.Go.OpenSpec.ofChange s with cond := some uptoSmall }

/-- 'bootchainlaw06.BoxTampered', WHERE WHAT IT READS IS OF BULK AT MOST 1048576: true; the input reads as it did. -/
def boxTamperedUptoRow : OpenClaim := { program := "ytoefmncdloffaaadoor", sum := "e43517b7a856665c5ea979e78092d1d3272e0b1b1d0c84b17cd8f8ffd00ec174", func := "bootchain/bootchainlaw06.BoxTampered", spec := "boxTampered", inPlace := ["internal/bytealg.MakeNoZero"], unfollowed := true, recurses := true, named := ["bootchain/sha.start", "bootchain/sha.constants"], apart := false, laid := [("bootchain/sha.constants", laid_bootchain_sha_constants), ("bootchain/sha.start", laid_bootchain_sha_start)], narrowed := true }
def BoxTamperedUptoSaid : Prop := boxTamperedUptoRow.holds Tryd.pinned (OpenSpec.upto boxTamperedSpec)

/-- 'bootchainlaw33.PageNew', WHERE WHAT IT READS IS OF BULK AT MOST 1048576: true; the input reads as it did. -/
def pageNewUptoRow : OpenClaim := { program := "ytoefmncdloffaaadoor", sum := "e43517b7a856665c5ea979e78092d1d3272e0b1b1d0c84b17cd8f8ffd00ec174", func := "bootchain/bootchainlaw33.PageNew", spec := "pageNew", inPlace := ["internal/bytealg.MakeNoZero"], unfollowed := true, recurses := true, named := ["bootchain/sha.start", "bootchain/sha.constants"], apart := false, laid := [("bootchain/sha.constants", laid_bootchain_sha_constants), ("bootchain/sha.start", laid_bootchain_sha_start)], narrowed := true }
def PageNewUptoSaid : Prop := pageNewUptoRow.holds Tryd.pinned (OpenSpec.upto pageNewSpec)

/-- 'bootchainlaw31.SealEncoding', WHERE WHAT IT READS IS OF BULK AT MOST 1048576: true; the input reads as it did. -/
def sealEncodingUptoRow : OpenClaim := { program := "ytoefmncdloffaaadoor", sum := "e43517b7a856665c5ea979e78092d1d3272e0b1b1d0c84b17cd8f8ffd00ec174", func := "bootchain/bootchainlaw31.SealEncoding", spec := "sealEncoding", inPlace := ["internal/bytealg.MakeNoZero"], unfollowed := true, recurses := true, named := ["bootchain/sha.start", "bootchain/sha.constants"], apart := false, laid := [("bootchain/sha.constants", laid_bootchain_sha_constants), ("bootchain/sha.start", laid_bootchain_sha_start)], narrowed := true }
def SealEncodingUptoSaid : Prop := sealEncodingUptoRow.holds Tryd.pinned (OpenSpec.upto sealEncodingSpec)

/-- 'bootchainlaw10.StoreGetMatchesSpec', WHERE WHAT IT READS IS OF BULK AT MOST 1048576: true; the input reads as it did. -/
def storeGetMatchesSpecUptoRow : OpenClaim := { program := "ytoefmncdloffaaadoor", sum := "e43517b7a856665c5ea979e78092d1d3272e0b1b1d0c84b17cd8f8ffd00ec174", func := "bootchain/bootchainlaw10.StoreGetMatchesSpec", spec := "storeGetMatchesSpec", inPlace := ["internal/abi.NoEscape", "internal/bytealg.MakeNoZero"], unfollowed := true, recurses := true, named := ["bootchain/sha.start", "bootchain/sha.constants"], apart := false, laid := [("bootchain/sha.constants", laid_bootchain_sha_constants), ("bootchain/sha.start", laid_bootchain_sha_start)], narrowed := true }
def StoreGetMatchesSpecUptoSaid : Prop := storeGetMatchesSpecUptoRow.holds Tryd.pinned (OpenSpec.upto storeGetMatchesSpecSpec)

/-- 'bootchainlaw10.StorePutMatchesSpec', WHERE WHAT IT READS IS OF BULK AT MOST 1048576: true; the input reads as it did. -/
def storePutMatchesSpecUptoRow : OpenClaim := { program := "ytoefmncdloffaaadoor", sum := "e43517b7a856665c5ea979e78092d1d3272e0b1b1d0c84b17cd8f8ffd00ec174", func := "bootchain/bootchainlaw10.StorePutMatchesSpec", spec := "storePutMatchesSpec", inPlace := ["internal/abi.NoEscape", "internal/bytealg.MakeNoZero"], unfollowed := true, recurses := true, named := ["bootchain/sha.start", "bootchain/sha.constants"], apart := false, laid := [("bootchain/sha.constants", laid_bootchain_sha_constants), ("bootchain/sha.start", laid_bootchain_sha_start)], narrowed := true }
def StorePutMatchesSpecUptoSaid : Prop := storePutMatchesSpecUptoRow.holds Tryd.pinned (OpenSpec.upto storePutMatchesSpecSpec)

/-- 'bootchainlaw10.StoreAtomic', WHERE WHAT IT READS IS OF BULK AT MOST 1048576: true; the input reads as it did. -/
def storeAtomicUptoRow : OpenClaim := { program := "ytoefmncdloffaaadoor", sum := "e43517b7a856665c5ea979e78092d1d3272e0b1b1d0c84b17cd8f8ffd00ec174", func := "bootchain/bootchainlaw10.StoreAtomic", spec := "storeAtomic", inPlace := ["internal/abi.NoEscape", "internal/bytealg.MakeNoZero"], unfollowed := true, recurses := true, named := ["bootchain/sha.start", "bootchain/sha.constants"], apart := false, laid := [("bootchain/sha.constants", laid_bootchain_sha_constants), ("bootchain/sha.start", laid_bootchain_sha_start)], narrowed := true }
def StoreAtomicUptoSaid : Prop := storeAtomicUptoRow.holds Tryd.pinned (OpenSpec.upto storeAtomicSpec)

/-- 'bootchainlaw10.StoreIndependent', WHERE WHAT IT READS IS OF BULK AT MOST 1048576: true; the input reads as it did. -/
def storeIndependentUptoRow : OpenClaim := { program := "ytoefmncdloffaaadoor", sum := "e43517b7a856665c5ea979e78092d1d3272e0b1b1d0c84b17cd8f8ffd00ec174", func := "bootchain/bootchainlaw10.StoreIndependent", spec := "storeIndependent", inPlace := ["internal/abi.NoEscape", "internal/bytealg.MakeNoZero"], unfollowed := true, recurses := true, named := ["bootchain/sha.start", "bootchain/sha.constants"], apart := false, laid := [("bootchain/sha.constants", laid_bootchain_sha_constants), ("bootchain/sha.start", laid_bootchain_sha_start)], narrowed := true }
def StoreIndependentUptoSaid : Prop := storeIndependentUptoRow.holds Tryd.pinned (OpenSpec.upto storeIndependentSpec)

/-- 'bootchainlaw10.StoreAccesses', WHERE WHAT IT READS IS OF BULK AT MOST 1048576: true; the input reads as it did. -/
def storeAccessesUptoRow : OpenClaim := { program := "ytoefmncdloffaaadoor", sum := "e43517b7a856665c5ea979e78092d1d3272e0b1b1d0c84b17cd8f8ffd00ec174", func := "bootchain/bootchainlaw10.StoreAccesses", spec := "storeAccesses", inPlace := ["internal/abi.NoEscape", "internal/bytealg.MakeNoZero"], unfollowed := true, recurses := true, named := ["bootchain/sha.start", "bootchain/sha.constants"], apart := false, laid := [("bootchain/sha.constants", laid_bootchain_sha_constants), ("bootchain/sha.start", laid_bootchain_sha_start)], narrowed := true }
def StoreAccessesUptoSaid : Prop := storeAccessesUptoRow.holds Tryd.pinned (OpenSpec.upto storeAccessesSpec)

/-- 'bootchainlaw10.StoreReads', WHERE WHAT IT READS IS OF BULK AT MOST 1048576: true; the input reads as it did. -/
def storeReadsUptoRow : OpenClaim := { program := "ytoefmncdloffaaadoor", sum := "e43517b7a856665c5ea979e78092d1d3272e0b1b1d0c84b17cd8f8ffd00ec174", func := "bootchain/bootchainlaw10.StoreReads", spec := "storeReads", inPlace := ["internal/abi.NoEscape", "internal/bytealg.MakeNoZero"], unfollowed := true, recurses := true, named := ["bootchain/sha.start", "bootchain/sha.constants"], apart := false, laid := [("bootchain/sha.constants", laid_bootchain_sha_constants), ("bootchain/sha.start", laid_bootchain_sha_start)], narrowed := true }
def StoreReadsUptoSaid : Prop := storeReadsUptoRow.holds Tryd.pinned (OpenSpec.upto storeReadsSpec)

end Rows
end Go.Proofs.YtoefmncdloffaaaDoor
