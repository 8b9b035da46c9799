/-
  No cell of these rows narrows 'for every input' (looked for: loops, veiled, ifaces, maps, wideKeys, modest, calm, conditions, laid).
  DERIVED. THE GIVEN ROWS OF THIS SEAT. 6 by the template 'for every input the law returns true; each argument reads behind the call as it read before'; 0 by the template 'total and deterministic' (their statements: YtmlekdmnpljcoaaTotals.lean).
  GIVEN WITH THE SEED: the statements are not yours to turn. If you find one false, say at which input.
  Laid BY PROGRAM, IN A SANDBOX (cutbox-rows.mjs): the forced cells as the released guide's own fill.sh prints them over the translation 69163ba289085144… (all of the seat's roots in one cut). By AI agents, Wed Nov 11 2026. No macro, syntax, notation, axiom, sorry.
-/
import Derived.Test.YtmlekdmnpljcoaaChecked
import GoSem.Claim
import GoSem.ClaimJoined
import GoSem.ClaimMapViews
import Derived.JoinedTies
import Derived.KernelRfl
namespace Go.Proofs.Ytmlekdmnpljcoaa
/- THE CELL 'sum', in the pinned program and in every row, IS THE sha256 OF THE DUMP (.gsa) THAT YtmlekdmnpljcoaaProg.lean LOADS. Nothing in Lean hashes anything: it is a label: what it is worth is what the hold of that sum in a sandbox is worth. -/
noncomputable def Try.pinned : Pinned := { name := "ytmlekdmnpljcoaa", sum := "69163ba289085144834f050b095b2065aa263099edd528cc58ac9b92e0a8ef24", checked := Try.checked }
namespace Rows
def none {H : Type} : Left H := { results := [], args := [] }

/-- 'bootchainlaw11.RatchetMatchesSpec': WHATEVER THE INPUT: true; the input reads as it did. -/
def ratchetMatchesSpecSpec : ChangeSpec := { name := "ratchetMatchesSpec", fn := fun _ => fun
  | [d] => { results := [.lit (.bool true)], args := [d] }
  | _ => none }
def ratchetMatchesSpecRow : OpenClaim := { program := "ytmlekdmnpljcoaa", sum := "69163ba289085144834f050b095b2065aa263099edd528cc58ac9b92e0a8ef24", func := "bootchain/bootchainlaw11.RatchetMatchesSpec", spec := "ratchetMatchesSpec", unfollowed := true, recurses := true, apart := false }
def RatchetMatchesSpecSaid : Prop := ratchetMatchesSpecRow.holds Try.pinned (OpenSpec.ofChange ratchetMatchesSpecSpec)

/-- ITS FALSE NEIGHBOUR: 'it returns false'. Refute it at one input. -/
def ratchetMatchesSpecWrong : ChangeSpec := { name := "ratchetMatchesSpec", fn := fun _ => fun
  | [d] => { results := [.lit (.bool false)], args := [d] }
  | _ => none }
def RatchetMatchesSpecWrongFalsely : Prop := ratchetMatchesSpecRow.holds Try.pinned (OpenSpec.ofChange ratchetMatchesSpecWrong)

/-- 'bootchainlaw11.RatchetNeverFalls': WHATEVER THE INPUT: true; the input reads as it did. -/
def ratchetNeverFallsSpec : ChangeSpec := { name := "ratchetNeverFalls", fn := fun _ => fun
  | [d1, d2] => { results := [.lit (.bool true)], args := [d1, d2] }
  | _ => none }
def ratchetNeverFallsRow : OpenClaim := { program := "ytmlekdmnpljcoaa", sum := "69163ba289085144834f050b095b2065aa263099edd528cc58ac9b92e0a8ef24", func := "bootchain/bootchainlaw11.RatchetNeverFalls", spec := "ratchetNeverFalls", unfollowed := true, recurses := true, apart := false }
def RatchetNeverFallsSaid : Prop := ratchetNeverFallsRow.holds Try.pinned (OpenSpec.ofChange ratchetNeverFallsSpec)

/-- ITS FALSE NEIGHBOUR: 'it returns false'. Refute it at one input. -/
def ratchetNeverFallsWrong : ChangeSpec := { name := "ratchetNeverFalls", fn := fun _ => fun
  | [d1, d2] => { results := [.lit (.bool false)], args := [d1, d2] }
  | _ => none }
def RatchetNeverFallsWrongFalsely : Prop := ratchetNeverFallsRow.holds Try.pinned (OpenSpec.ofChange ratchetNeverFallsWrong)

/-- 'bootchainlaw11.RatchetRaiseReaches': WHATEVER THE INPUT: true; the input reads as it did. -/
def ratchetRaiseReachesSpec : ChangeSpec := { name := "ratchetRaiseReaches", fn := fun _ => fun
  | [d1, d2] => { results := [.lit (.bool true)], args := [d1, d2] }
  | _ => none }
def ratchetRaiseReachesRow : OpenClaim := { program := "ytmlekdmnpljcoaa", sum := "69163ba289085144834f050b095b2065aa263099edd528cc58ac9b92e0a8ef24", func := "bootchain/bootchainlaw11.RatchetRaiseReaches", spec := "ratchetRaiseReaches", unfollowed := true, recurses := true, apart := false }
def RatchetRaiseReachesSaid : Prop := ratchetRaiseReachesRow.holds Try.pinned (OpenSpec.ofChange ratchetRaiseReachesSpec)

/-- ITS FALSE NEIGHBOUR: 'it returns false'. Refute it at one input. -/
def ratchetRaiseReachesWrong : ChangeSpec := { name := "ratchetRaiseReaches", fn := fun _ => fun
  | [d1, d2] => { results := [.lit (.bool false)], args := [d1, d2] }
  | _ => none }
def RatchetRaiseReachesWrongFalsely : Prop := ratchetRaiseReachesRow.holds Try.pinned (OpenSpec.ofChange ratchetRaiseReachesWrong)

/-- 'bootchainlaw11.RatchetWornOnlyIfStuck': WHATEVER THE INPUT: true; the input reads as it did. -/
def ratchetWornOnlyIfStuckSpec : ChangeSpec := { name := "ratchetWornOnlyIfStuck", fn := fun _ => fun
  | [d1, d2] => { results := [.lit (.bool true)], args := [d1, d2] }
  | _ => none }
def ratchetWornOnlyIfStuckRow : OpenClaim := { program := "ytmlekdmnpljcoaa", sum := "69163ba289085144834f050b095b2065aa263099edd528cc58ac9b92e0a8ef24", func := "bootchain/bootchainlaw11.RatchetWornOnlyIfStuck", spec := "ratchetWornOnlyIfStuck", unfollowed := true, recurses := true, apart := false }
def RatchetWornOnlyIfStuckSaid : Prop := ratchetWornOnlyIfStuckRow.holds Try.pinned (OpenSpec.ofChange ratchetWornOnlyIfStuckSpec)

/-- ITS FALSE NEIGHBOUR: 'it returns false'. Refute it at one input. -/
def ratchetWornOnlyIfStuckWrong : ChangeSpec := { name := "ratchetWornOnlyIfStuck", fn := fun _ => fun
  | [d1, d2] => { results := [.lit (.bool false)], args := [d1, d2] }
  | _ => none }
def RatchetWornOnlyIfStuckWrongFalsely : Prop := ratchetWornOnlyIfStuckRow.holds Try.pinned (OpenSpec.ofChange ratchetWornOnlyIfStuckWrong)

/-- 'bootchainlaw11.RatchetLeavesUpperBits': WHATEVER THE INPUT: true; the input reads as it did. -/
def ratchetLeavesUpperBitsSpec : ChangeSpec := { name := "ratchetLeavesUpperBits", fn := fun _ => fun
  | [d1, d2] => { results := [.lit (.bool true)], args := [d1, d2] }
  | _ => none }
def ratchetLeavesUpperBitsRow : OpenClaim := { program := "ytmlekdmnpljcoaa", sum := "69163ba289085144834f050b095b2065aa263099edd528cc58ac9b92e0a8ef24", func := "bootchain/bootchainlaw11.RatchetLeavesUpperBits", spec := "ratchetLeavesUpperBits", unfollowed := true, recurses := true, apart := false }
def RatchetLeavesUpperBitsSaid : Prop := ratchetLeavesUpperBitsRow.holds Try.pinned (OpenSpec.ofChange ratchetLeavesUpperBitsSpec)

/-- ITS FALSE NEIGHBOUR: 'it returns false'. Refute it at one input. -/
def ratchetLeavesUpperBitsWrong : ChangeSpec := { name := "ratchetLeavesUpperBits", fn := fun _ => fun
  | [d1, d2] => { results := [.lit (.bool false)], args := [d1, d2] }
  | _ => none }
def RatchetLeavesUpperBitsWrongFalsely : Prop := ratchetLeavesUpperBitsRow.holds Try.pinned (OpenSpec.ofChange ratchetLeavesUpperBitsWrong)

/-- 'bootchainlaw11.RatchetCounts': WHATEVER THE INPUT: true; the input reads as it did. -/
def ratchetCountsSpec : ChangeSpec := { name := "ratchetCounts", fn := fun _ => fun
  | [d1, d2] => { results := [.lit (.bool true)], args := [d1, d2] }
  | _ => none }
def ratchetCountsRow : OpenClaim := { program := "ytmlekdmnpljcoaa", sum := "69163ba289085144834f050b095b2065aa263099edd528cc58ac9b92e0a8ef24", func := "bootchain/bootchainlaw11.RatchetCounts", spec := "ratchetCounts", unfollowed := true, recurses := true, apart := false }
def RatchetCountsSaid : Prop := ratchetCountsRow.holds Try.pinned (OpenSpec.ofChange ratchetCountsSpec)

/-- ITS FALSE NEIGHBOUR: 'it returns false'. Refute it at one input. -/
def ratchetCountsWrong : ChangeSpec := { name := "ratchetCounts", fn := fun _ => fun
  | [d1, d2] => { results := [.lit (.bool false)], args := [d1, d2] }
  | _ => none }
def RatchetCountsWrongFalsely : Prop := ratchetCountsRow.holds Try.pinned (OpenSpec.ofChange ratchetCountsWrong)

/- THE SECOND FORM. 'bulk': how many values and letters a reading holds, each counted each time it is reached (what is shared counts as often as it is met; a slice's spare places count too). A statement '..UptoSaid' is the law's where the arguments, and the package variables that the reading takes, are together of bulk at most 1048576: NARROWER than '..Said'. Prove '..Said' where nothing that the law and all that it calls make is longer than what came in: it says more and counts as full. Else prove '..UptoSaid'. A law counts once. -/
mutual
def uptoBulk {H : Type} : DataW H → Nat
  | .lit (.string bytes) => bytes.length + 1
  | .lit _ => 1
  | .nil => 1
  | .ptr d => uptoBulk d + 1
  | .slice elems spare => uptoBulkAll elems + uptoBulkAll spare + 1
  | .agg parts => uptoBulkAll parts + 1
  | .iface _ d => uptoBulk d + 1
  | .map entries => uptoBulkEntries entries + 1
  | .held _ => 1
def uptoBulkAll {H : Type} : List (DataW H) → Nat
  | [] => 0
  | d :: r => uptoBulk d + uptoBulkAll r
def uptoBulkEntries {H : Type} : List (Lit × DataW H) → Nat
  | [] => 0
  | x :: r => uptoBulkEntry x + uptoBulkEntries r
def uptoBulkEntry {H : Type} : Lit × DataW H → Nat
  | (.string bytes, d) => bytes.length + uptoBulk d + 1
  | (_, d) => uptoBulk d + 1
 end
def uptoSmall : (H : Type) → List (DataW H) → Bool := fun _ ds => decide (uptoBulkAll ds ≤ 1048576)
def OpenSpec.upto (s : _root_.Go.ChangeSpec) : _root_.Go.OpenSpec := { _root_.Go.OpenSpec.ofChange s with cond := some uptoSmall }

/-- 'bootchainlaw11.RatchetMatchesSpec', WHERE WHAT IT READS IS OF BULK AT MOST 1048576: true; the input reads as it did. -/
def ratchetMatchesSpecUptoRow : OpenClaim := { program := "ytmlekdmnpljcoaa", sum := "69163ba289085144834f050b095b2065aa263099edd528cc58ac9b92e0a8ef24", func := "bootchain/bootchainlaw11.RatchetMatchesSpec", spec := "ratchetMatchesSpec", unfollowed := true, recurses := true, apart := false, narrowed := true }
def RatchetMatchesSpecUptoSaid : Prop := ratchetMatchesSpecUptoRow.holds Try.pinned (OpenSpec.upto ratchetMatchesSpecSpec)

/-- 'bootchainlaw11.RatchetNeverFalls', WHERE WHAT IT READS IS OF BULK AT MOST 1048576: true; the input reads as it did. -/
def ratchetNeverFallsUptoRow : OpenClaim := { program := "ytmlekdmnpljcoaa", sum := "69163ba289085144834f050b095b2065aa263099edd528cc58ac9b92e0a8ef24", func := "bootchain/bootchainlaw11.RatchetNeverFalls", spec := "ratchetNeverFalls", unfollowed := true, recurses := true, apart := false, narrowed := true }
def RatchetNeverFallsUptoSaid : Prop := ratchetNeverFallsUptoRow.holds Try.pinned (OpenSpec.upto ratchetNeverFallsSpec)

/-- 'bootchainlaw11.RatchetRaiseReaches', WHERE WHAT IT READS IS OF BULK AT MOST 1048576: true; the input reads as it did. -/
def ratchetRaiseReachesUptoRow : OpenClaim := { program := "ytmlekdmnpljcoaa", sum := "69163ba289085144834f050b095b2065aa263099edd528cc58ac9b92e0a8ef24", func := "bootchain/bootchainlaw11.RatchetRaiseReaches", spec := "ratchetRaiseReaches", unfollowed := true, recurses := true, apart := false, narrowed := true }
def RatchetRaiseReachesUptoSaid : Prop := ratchetRaiseReachesUptoRow.holds Try.pinned (OpenSpec.upto ratchetRaiseReachesSpec)

/-- 'bootchainlaw11.RatchetWornOnlyIfStuck', WHERE WHAT IT READS IS OF BULK AT MOST 1048576: true; the input reads as it did. -/
def ratchetWornOnlyIfStuckUptoRow : OpenClaim := { program := "ytmlekdmnpljcoaa", sum := "69163ba289085144834f050b095b2065aa263099edd528cc58ac9b92e0a8ef24", func := "bootchain/bootchainlaw11.RatchetWornOnlyIfStuck", spec := "ratchetWornOnlyIfStuck", unfollowed := true, recurses := true, apart := false, narrowed := true }
def RatchetWornOnlyIfStuckUptoSaid : Prop := ratchetWornOnlyIfStuckUptoRow.holds Try.pinned (OpenSpec.upto ratchetWornOnlyIfStuckSpec)

/-- 'bootchainlaw11.RatchetLeavesUpperBits', WHERE WHAT IT READS IS OF BULK AT MOST 1048576: true; the input reads as it did. -/
def ratchetLeavesUpperBitsUptoRow : OpenClaim := { program := "ytmlekdmnpljcoaa", sum := "69163ba289085144834f050b095b2065aa263099edd528cc58ac9b92e0a8ef24", func := "bootchain/bootchainlaw11.RatchetLeavesUpperBits", spec := "ratchetLeavesUpperBits", unfollowed := true, recurses := true, apart := false, narrowed := true }
def RatchetLeavesUpperBitsUptoSaid : Prop := ratchetLeavesUpperBitsUptoRow.holds Try.pinned (OpenSpec.upto ratchetLeavesUpperBitsSpec)

/-- 'bootchainlaw11.RatchetCounts', WHERE WHAT IT READS IS OF BULK AT MOST 1048576: true; the input reads as it did. -/
def ratchetCountsUptoRow : OpenClaim := { program := "ytmlekdmnpljcoaa", sum := "69163ba289085144834f050b095b2065aa263099edd528cc58ac9b92e0a8ef24", func := "bootchain/bootchainlaw11.RatchetCounts", spec := "ratchetCounts", unfollowed := true, recurses := true, apart := false, narrowed := true }
def RatchetCountsUptoSaid : Prop := ratchetCountsUptoRow.holds Try.pinned (OpenSpec.upto ratchetCountsSpec)

end Rows
end Go.Proofs.Ytmlekdmnpljcoaa
