/-
  bootchainlaw11.execute = the plain executor.
-/
import Derived.Test.YtmlekdmnpljcoaaSpec
import Derived.Test.YtmlekdmnpljcoaaDevP
namespace Go.Proofs.Ytmlekdmnpljcoaa
open Go.RowKit

def runV (fv : Value) (r : RunR) : Value := .agg #[fv, .int .i64 r.out.1, .int .i64 r.out.2, .bool r.done, .int .i64 r.many, .bool r.bad]

/-- The fuses behind an access, its result's value. -/
def afterC (a : Acc) (f : Bool × Bool) (cells : List Int) : List Int := if a.kind = 1 then cells else cells.set a.cell.toNat (pulsed (cells.getD a.cell.toNat 0) f.1)
def afterV (a : Acc) (f : Bool × Bool) (cells : List Int) : Int := if a.kind = 1 then fuseBit (cells.getD a.cell.toNat 0) f.2 else 0
theorem fuelLoop_ask (faults : List Int) (f : Nat) (a : Acc) (k : Res → Prg (Nat × Int)) (cells : List Int) (i : Nat) :
    fuelLoop faults (f + 1) (.ask a k) cells i = if (faultAt faults i).1 = true then ⟨afterC a (faultAt faults i) cells, (0, 0), false, i + 1, false⟩ else fuelLoop faults f (k ⟨afterV a (faultAt faults i) cells, noBytes⟩) (afterC a (faultAt faults i) cells) (i + 1) := rfl
theorem afterC_length (a : Acc) (f : Bool × Bool) (cells : List Int) : (afterC a f cells).length = cells.length := by unfold afterC; split <;> simp

/-- Fuses: either as P says, or made since there were B blocks. -/
def FusesAt (P : Value → List (List Int) → Prop) (B : Nat) (w : World) (fv : Value) (banks : List (List Int)) : Prop := P fv banks ∨ FusesNew B w fv banks
theorem FusesAt.fuses {P : Value → List (List Int) → Prop} {w : World} {B : Nat} {fv : Value} {banks : List (List Int)} (h : FusesAt P B w fv banks) (he : ∀ v b, P v b → FusesIn w v b) : FusesIn w fv banks := h.elim (fun h => he _ _ h) (fun h => h.fuses)
theorem FusesAt.chg {P : Value → List (List Int) → Prop} {w w' : World} {B : Nat} {fv : Value} {banks : List (List Int)} (h : FusesAt P B w fv banks) {S : Nat → Prop} (hc : Chg S w w') (hS : ∀ k, B ≤ k → ¬ S k) : FusesAt P B w' fv banks := h.imp id fun h => h.chg hc hS

theorem fuses_oneCell {w : World} {fv : Value} {banks : List (List Int)} (h : FusesIn w fv banks) : fv.oneCell' = true := by
  obtain ⟨_, ⟨_, A, c, rfl, _⟩, _⟩ := h.ex
  rfl
theorem dev_any (H : Array Value) (fv : Value) (hH : H.size = 18) (hH1 : H.all (·.oneCell') = true) (hH0 : H[0]? = some fv) (cells : List Int) (a : Acc) (f : Bool × Bool) (n : Nat) (P : Value → List (List Int) → Prop) (w : World) (B : Nat) (h : FusesAt P B w fv [cells]) (he : ∀ v b, P v b → FusesIn w v b) (hB : B ≤ w.heap.size)
    (h1 : a.kind = 1 ∨ a.kind = 2) (h2 : a.bank = 0) (h3 : 0 ≤ a.cell) (h4 : a.cell < n) (h5 : a.bytes = noBytes) (hl : cells.length = n) (hn : n ≤ 100000) :
    Calls Try.prog 30 #[.agg H, a.v, faultV f] w fun e w' =>
      ∃ H' fv', e = .returned (.tuple #[.agg H', .agg #[.int .i64 (if f.1 then 0 else afterV a f cells), .string noBytes], .int .i64 0]) ∧ (H'.size = 18 ∧ H'.all (·.oneCell') = true ∧ H'[0]? = some fv') ∧ FusesAt P B w' fv' [afterC a f cells] ∧ Ext w w' := by
  obtain ⟨kd, bk, cl, bs⟩ := a
  obtain ⟨cut, noise⟩ := f
  simp only at h1 h2 h3 h4 h5
  subst h2 h5
  obtain ⟨m, rfl⟩ := Int.eq_ofNat_of_zero_le h3
  have hm : m < cells.length := by omega
  have hg : cells.getD m 0 = cells[m] := by rw [List.getD_eq_getElem?_getD, List.getElem?_eq_getElem hm]; rfl
  rcases h1 with rfl | rfl
  · have e1 : afterC ⟨1, 0, (m : Int), noBytes⟩ (cut, noise) cells = cells := rfl
    have e2 : afterV ⟨1, 0, (m : Int), noBytes⟩ (cut, noise) cells = fuseBit cells[m] noise := by show fuseBit (cells.getD m 0) noise = _; rw [hg]
    rw [e1, e2]
    refine (dev_read H fv hH hH1 hH0 [cells] 0 m cut noise 0 w (h.fuses he) (by simp) (by simpa using hm)).mono ?_
    rintro e w1 ⟨rfl, hE⟩
    exact ⟨H, fv, rfl, ⟨hH, hH1, hH0⟩, h.chg (S := Non) hE (fun _ _ h => h), hE⟩
  · have e1 : afterC ⟨2, 0, (m : Int), noBytes⟩ (cut, noise) cells = cells.set m (pulsed cells[m] cut) := by show cells.set m (pulsed (cells.getD m 0) cut) = _; rw [hg]
    have e2 : afterV ⟨2, 0, (m : Int), noBytes⟩ (cut, noise) cells = 0 := rfl
    rw [e1, e2]
    refine (dev_pulse H fv hH hH1 hH0 [cells] 0 m cut noise 0 w (h.fuses he) (by simp) (by simpa using hm) (by simp) (by simp; omega)).mono ?_
    rintro e w1 ⟨fv', rfl, hF, hE⟩
    refine ⟨_, fv', by simp only [ite_self]; rfl, ⟨by simpa using hH, ?_, ?_⟩, .inr (hF.lower hB), hE⟩
    · rw [Array.all_eq_true'] at hH1 ⊢
      intro v hv
      rcases Array.mem_or_eq_of_mem_setIfInBounds hv with h1 | rfl
      · exact hH1 _ h1
      · exact fuses_oneCell hF.fuses
    · rw [Array.getElem?_setIfInBounds_self_of_lt (by omega)]

theorem res_row : SlTy Try.prog 22 79 2 24 := SlTy.mk' (z := .agg #[.int .i64 0, .string { data := #[] }]) (by kernel_rfl) (by kernel_rfl) rfl (by omega) (by omega)

/-- What holds at the top of execute's loop. -/
structure XI (P : Value → List (List Int) → Prop) (w : World) (R0 : RunR) (p0 : Prg (Nat × Int)) (sv : Array Value) (n : Nat) (faults : List Int) (i : Nat) (p : Prg (Nat × Int)) (cs : List Int) (H : Array Value) (fv : Value) (log : List Res) (v8 : Value) (wr : World) : Prop where
  i4 : i ≤ 400
  len : log.length = i
  own : wr.ownsRow (w.heap.size + 4) 79 2 v8 i (logCells log)
  left : Left p0 p log
  inn : Prg.In n p
  eq : fuelLoop faults (400 - i) p cs i = R0
  cl : cs.length = n
  fus : FusesAt P (w.heap.size + 4) wr fv [cs]
  hw : Blk wr (w.heap.size + 1 + 1 + 1) 65 H
  hn : H.size = 18
  h1 : H.all (·.oneCell') = true
  h0 : H[0]? = some fv
  ses : Blk wr (w.heap.size + 1) 47 sv
  out : Blk wr (w.heap.size + 1 + 1) 44 #[.slice none 0 0, .int .i64 0, .int .i64 0, .bool false, .int .i64 0, .bool false]
  ext : Ext w wr
theorem XI.next {P : Value → List (List Int) → Prop} {w : World} {R0 : RunR} {p0 p : Prg (Nat × Int)} {sv : Array Value} {n : Nat} {faults : List Int} {i : Nat} {cs : List Int} {H : Array Value} {fv : Value} {log : List Res} {v8 : Value} {wr w' : World} (h : XI P w R0 p0 sv n faults i p cs H fv log v8 wr) (he : Ext wr w') : XI P w R0 p0 sv n faults i p cs H fv log v8 w' :=
  ⟨h.i4, h.len, ownsRow_ext h.own he, h.left, h.inn, h.eq, h.cl, h.fus.chg (S := Non) he (fun _ _ h => h), h.hw.ext he, h.hn, h.h1, h.h0, h.ses.ext he, h.out.ext he, h.ext.trans he⟩

theorem all_set0 {H : Array Value} {v : Value} (hH : H.all (·.oneCell') = true) (hv : v.oneCell' = true) : (H.setIfInBounds 0 v).all (·.oneCell') = true := by
  rw [Array.all_eq_true'] at hH ⊢
  intro u hu
  rcases Array.mem_or_eq_of_mem_setIfInBounds hu with h1 | rfl
  · exact hH _ h1
  · exact hv
theorem all_list {H : Array Value} (h : H.toList.all (·.oneCell') = true) : H.all (·.oneCell') = true := by rw [← Array.all_toList]; exact h
theorem Blk.cells6 {w : World} {g : Nat} {t : TypeId} {a b c d e f : Value} (h : Blk w g t #[a, b, c, d, e, f]) : (w.cell? ⟨g, 0, none⟩ = some a ∧ w.cell? ⟨g, 1, none⟩ = some b ∧ w.cell? ⟨g, 2, none⟩ = some c ∧ w.cell? ⟨g, 3, none⟩ = some d ∧ w.cell? ⟨g, 4, none⟩ = some e ∧ w.cell? ⟨g, 5, none⟩ = some f) ∧ (∀ i, w.frozen? ⟨g, i, none⟩ = false) ∧ g < w.heap.size := ⟨⟨h.cell 0, h.cell 1, h.cell 2, h.cell 3, h.cell 4, h.cell 5⟩, h.frozen, h.lt⟩

theorem fuelLoop_ret (faults : List Int) (f : Nat) (out : Nat × Int) (cells : List Int) (i : Nat) : fuelLoop faults (f + 1) (.ret out) cells i = ⟨cells, out, true, i, false⟩ := rfl
theorem fuelLoop_zero (faults : List Int) (p : Prg (Nat × Int)) (cells : List Int) (i : Nat) : fuelLoop faults 0 p cells i = ⟨cells, (0, 0), false, 0, true⟩ := rfl
theorem FusesAt.chgRow {P : Value → List (List Int) → Prop} {w w' : World} {B base n : Nat} {fv v : Value} {banks : List (List Int)} {xs : List Value} (h : FusesAt P B w fv banks) (ho : w.ownsRow base 79 2 v n xs) (hc : Chg (fun k => v.ownBlock = some k) w w') : FusesAt P B w' fv banks := by
  refine h.imp id fun h => ?_
  obtain ⟨B', bvs, hB, h1, h2⟩ := h
  refine ⟨B', bvs, hB, ownsRow_chg h1 hc (fun j hj e => own_ne h1 ho (by decide) hj e), h2.chg hc (fun k bv g e1 e2 e3 => ?_)⟩
  have hk : k < banks.length := by
    have := h2.len
    rcases Nat.lt_or_ge k bvs.length with hh | hh
    · omega
    · rw [List.getElem?_eq_none hh] at e1; cases e1
  exact own_ne (h2.each k bv _ e1 (List.getElem?_eq_getElem hk)) ho (by decide) e2 e3
theorem all_two {a b : Value} (ha : a.oneCell' = true) (hb : b.oneCell' = true) : AllOne [a, b] := by
  intro u hu
  simp at hu
  rcases hu with rfl | rfl
  · exact ha
  · exact hb
theorem logCells_snoc (log : List Res) (r : Res) : logCells (log ++ [r]) = logCells log ++ r.cells := by simp [logCells]
theorem results_one {P : Program} {fn : Func} {i : Tmp} {T1 : TypeId} {n1 : Nat} (W1 : Wide P T1 n1) (hf : fn.results = #[.cell i T1]) {tmps : Array Value} {w : World} {b1 : Nat} {t1 : TypeId} {c1 : Array Value}
    (hB1 : Blk w b1 t1 c1) (k1 : c1.size = n1) (ei : tmps.getD i undef = .pointer (some ⟨b1, 0, none⟩)) :
    (results fn tmps).run P w = .ok (.agg c1) w := by
  have h1 := hB1.loadVar_ W1 k1
  simp only [Array.getD_eq_getD_getElem?] at ei
  simp [results, hf, ei, asAddr, h1]
theorem run_wide : Wide Try.prog 44 6 := ⟨⟨_, Try.underlying44, rfl⟩, by kernel_rfl⟩
def run0 : Array Value := #[.slice none 0 0, .int .i64 0, .int .i64 0, .bool false, .int .i64 0, .bool false]

set_option maxRecDepth 100000 in
set_option maxHeartbeats 4000000 in
theorem execute_at (raise : Bool) (target : Int) (fl : Value) (faults : List Int) (fv : Value) (cells : List Int) (bits : Nat) (P : Value → List (List Int) → Prop) (w : World) (hf0 : P fv [cells]) (he0 : ∀ v b, P v b → FusesIn w v b) (hfl : Reads w 1 fl faults.length (faults.map (Value.int .u8))) (h8 : ∀ x ∈ faults, isU8 x)
    (ht : isU8 target) (hb : bits ≤ 16) (hc : cells.length = 3 * bits) :
    Calls Try.prog 16 #[.agg #[fv], .agg #[.bool raise, .int .u8 target, fl], .int .i64 bits] w fun e w' =>
      ∃ fv', e = .returned (runV fv' (execR raise target faults bits cells)) ∧ FusesAt P (w.heap.size + 4) w' fv' [(execR raise target faults bits cells).cells] ∧ Ext w w' := by
  have HF := hide hf0
  have hf := he0 _ _ hf0
  have HE0 := hide he0
  clear he0 hf0
  have HL := hide hfl
  have H8 := hide (And.intro h8 (And.intro ht hc))
  obtain ⟨_, ⟨_, A, c, rfl, _⟩, _⟩ := hf.ex
  obtain ⟨_, A2, c2, rfl, _⟩ := hfl
  clear hf h8 ht hc
  generalize hR : execR raise target faults bits cells = R0
  have HR := hide hR
  clear hR
  go_enter Try.func16, Try.ntmps16
  go_wp2_with (first
    | ((with_reducible show wpList _ _ _ (_ :: _) _ _)
       refine wpList_storeB (ty := 65) (t := 65) (old := hw0) (x := .tmp 7) (y := .tmp 18) rfl rfl hw_wide rfl rfl ?_ rfl rfl rfl ?_
       · exact Blk.new' _ _ _ (by simp)
       intro wa hb7 hca hsa)
    | fail)
  go_loopw [8, 9] (fun s iv wr => ∃ (i : Nat) (p : Prg (Nat × Int)) (cs : List Int) (H : Array Value) (fvi : Value) (log : List Res), iv = .int .i64 i ∧ XI P w R0 (sessionP raise target bits) #[.bool raise, .int .u8 target, .slice A2 faults.length c2] (3 * bits) faults i p cs H fvi log s wr) (fun _ i _ => 400 - (intOf i).toNat)
  case atStart =>
    refine ⟨0, sessionP raise target bits, cells, hw0.setIfInBounds 0 (.slice A [cells].length c), .slice A [cells].length c, [], rfl, ?_⟩
    refine ⟨by omega, rfl, World.ownsRow_nil _ _ _ _, Left.start _, session_in raise target bits, unhide HR, (unhide H8).2.2, .inl (unhide HF), Blk.new' _ _ _ (by simp), rfl, all_set0 (H := hw0) (by rw [← Array.all_toList]; rfl) rfl, rfl, ?_, Blk.alloc (Blk.new' _ _ _ (by simp)) _, ?_⟩
    · exact ((Blk.new' _ _ _ (by simp)).alloc _).alloc _
    · repeat' (first | (with_reducible exact Chg.refl _ _) | (with_reducible exact Ext.refl _) | (with_reducible assumption) | (with_reducible refine Chg.alloc ?_ _) | (with_reducible refine Chg.drew ?_) | (with_reducible refine Chg.drewN ?_ _) | (with_reducible refine Chg.setCell ?_ ?_ _) | (with_reducible refine Ext.alloc ?_ _) | (with_reducible refine Ext.drew ?_) | (with_reducible refine Ext.drewN ?_ _) | (with_reducible refine Ext.setCell ?_ ?_ _) | (simp; done) | (simp; omega) | omega)
  case round =>
    obtain ⟨i, p, cs, H, fvi, log, rfl, hX⟩ := hrel
    obtain ⟨_, ⟨_, A', c', rfl, _⟩, _⟩ := (hX.fus.fuses (fun v b h => (unhide HE0 v b h).ext hX.ext)).ex
    have HX := hide hX
    clear hX
    have hi4 := (unhide HX).i4
    by_cases hi : i < 400
    · have hi' : (i : Int) < 400 := by omega
      obtain ⟨s0, s1, s2, fs, ls⟩ := (unhide HX).ses.cells3
      go_wp2_with fail
      refine (next_any raise target _ bits _ log _ ?_ (unhide H8).2.1 hb).mono ?_
      · rw [(unhide HX).len]
        exact Reads.of_own (unhide HX).own
      rintro e w1 ⟨he, hE1⟩
      have HX1 := hide (And.intro ((unhide HX).next hE1) hE1)
      clear hE1 s0 s1 s2 fs ls HX
      rw [nextR_session] at he
      cases p with
      | ret out =>
        obtain ⟨o1, o2⟩ := out
        rw [(unhide HX1).1.left.ret] at he
        replace he : e = .returned (.tuple #[.agg #[.int .i64 0, .int .i64 0, .int .i64 0, .string noBytes], .agg #[.int .i64 o1, .int .i64 o2], .bool true]) := he
        subst he
        obtain ⟨h0, fh, lh⟩ : w1.cell? ⟨w.heap.size + 1 + 1 + 1, 0, none⟩ = some (.slice A' [cs].length c') ∧ (∀ i, w1.frozen? ⟨w.heap.size + 1 + 1 + 1, i, none⟩ = false) ∧ w.heap.size + 1 + 1 + 1 < w1.heap.size := ⟨((unhide HX1).1.hw.cell 0).trans (unhide HX1).1.h0, (unhide HX1).1.hw.frozen, (unhide HX1).1.hw.lt⟩
        have ls0 : w.heap.size < w1.heap.size := by omega
        have ls2 : w.heap.size + 1 < w1.heap.size := by omega
        have ls3 : w.heap.size + 1 + 1 < w1.heap.size := by omega
        go_wp2_with (first
          | ((with_reducible show wpList _ _ _ (_ :: _) _ _)
             refine wpList_storeB (ty := 44) (t := 44) (old := run0) (x := .tmp 6) (y := .tmp 36) rfl rfl run_wide rfl rfl ?_ rfl rfl ?_ ?_
             · exact ((unhide HX1).1.out.alloc _).alloc _
             · exact all_list rfl
             intro wa hb6 hca hsa)
          | fail)
        obtain ⟨m, hm⟩ : ∃ m, 400 - i = m + 1 := ⟨399 - i, by omega⟩
        have hR := (unhide HX1).1.eq
        rw [hm, fuelLoop_ret] at hR
        subst hR
        have hE : Ext w wa := (((unhide HX1).1.ext.alloc _).alloc _).trans' hca (fun _ _ h => h) (fun i hi e => by omega)
        exact bodyPost_ret (results_one run_wide rfl hb6 rfl rfl) rfl ⟨.slice A' [cs].length c', rfl, (unhide HX1).1.fus.chg ((((Ext.refl w1).alloc _).alloc _).chg.trans hca) (fun k hk e => by omega), hE⟩
      | ask a k =>
        rw [(unhide HX1).1.left.ask] at he
        obtain ⟨kd, bk, cl, bs⟩ := a
        replace he : e = .returned (.tuple #[.agg #[.int .i64 kd, .int .i64 bk, .int .i64 cl, .string bs], .agg #[.int .i64 0, .int .i64 0], .bool false]) := he
        subst he
        obtain ⟨s0, s1, s2, fs, ls⟩ := (unhide HX1).1.ses.cells3
        have ls0 : w.heap.size < w1.heap.size := by omega
        have ls1 : ¬ w.heap.size = w1.heap.size := by omega
        go_wp2_with fail
        refine (fault_any faults _ i _ ?_ (unhide H8).1 (by omega)).mono ?_
        · exact (unhide HL).ext (((unhide HX1).1.ext.alloc _).alloc _)
        rintro e w2 ⟨he, hE2⟩
        generalize hf : faultAt faults i = ff at he
        obtain ⟨f1, f2⟩ := ff
        have HFF := hide hf
        clear hf
        replace he : e = .returned (.agg #[.bool f1, .int .i64 0, .bool f2]) := he
        subst he
        have HX2 := hide (And.intro ((unhide HX1).1.next (((Ext.refl w1).alloc _ |>.alloc _).trans hE2)) (And.intro ((Blk.new' w1 27 #[.int .i64 kd, .int .i64 bk, .int .i64 cl, .string bs] (g := w1.heap.size) rfl).alloc _ |>.ext hE2) (by have := hE2.size'; simpa using this : w1.heap.size + 2 ≤ w2.heap.size)))
        clear hE2 s0 s1 s2 fs ls ls0 ls1 HX1
        obtain ⟨a0, a1, a2, a3, fA, lA⟩ := (unhide HX2).2.1.cells4
        have la0 : w1.heap.size ≠ w2.heap.size := by omega
        go_wp2_with (first
          | ((with_reducible show wpList _ _ _ (_ :: _) _ _)
             (refine wpList_loadB (ty := 65) (t := 65) (x := .tmp 7) rfl rfl hw_wide rfl ?_ (unhide HX2).1.hn ?_)
             · exact (unhide HX2).1.hw.alloc _)
          | fail)
        refine (dev_any H _ (unhide HX2).1.hn (unhide HX2).1.h1 (unhide HX2).1.h0 cs ⟨kd, bk, cl, bs⟩ (f1, f2) (3 * bits) P _ (w.heap.size + 4) ((unhide HX2).1.fus.chg (S := Non) (Chg.alloc (Ext.refl _) _) (fun _ _ h => h)) (fun v b h => (unhide HE0 v b h).ext ((unhide HX2).1.ext.alloc _)) (by have := (unhide HX2).1.hw.lt; simp; omega)
          (unhide HX2).1.inn.1 (unhide HX2).1.inn.2.1 (unhide HX2).1.inn.2.2.1 (unhide HX2).1.inn.2.2.2.1 (unhide HX2).1.inn.2.2.2.2.1 (unhide HX2).1.cl (by omega)).mono ?_
        rintro e w3 ⟨H', fv', he, hH', hF3, hE3⟩
        obtain ⟨_, ⟨_, A5, c5, rfl, _⟩, _⟩ := (hF3.fuses (fun v b h => (unhide HE0 v b h).ext (((unhide HX2).1.ext.alloc _).trans hE3))).ex
        generalize hv : (if (f1, f2).1 = true then 0 else afterV ⟨kd, bk, cl, bs⟩ (f1, f2) cs) = v at he
        subst he
        have HV := hide hv
        clear hv
        have HX3 := hide (And.intro ((unhide HX2).1.next (((Ext.refl w2).alloc _).trans hE3)) (And.intro ((Blk.new w2 76 #[.bool f1, .int .i64 0, .bool f2]).ext hE3) hF3))
        have HH := hide hH'
        have hsz : Hid (w1.heap.size + 2 ≤ w2.heap.size ∧ w2.heap.size < w3.heap.size) := hide ⟨(unhide HX2).2.2, by have := hE3.size'; simp at this; omega⟩
        have hlw : Hid (w.heap.size + 1 + 1 + 1 < w3.heap.size ∧ w.heap.size + 1 + 1 + 1 < w2.heap.size) := hide ⟨(unhide HX3).1.hw.lt, (unhide HX2).1.hw.lt⟩
        clear hE3 hF3 hH' a0 a1 a2 a3 fA lA la0 HX2
        go_wp2_with (first
          | ((with_reducible show wpList _ _ _ (_ :: _) _ _)
             refine wpList_storeB (ty := 65) (t := 65) (old := hw0) (x := .tmp 14) (y := .tmp 46) rfl rfl hw_wide rfl rfl ?_ rfl (unhide HH).1 (unhide HH).2.1 ?_
             · exact (Blk.new' _ _ _ rfl).alloc _
             intro wa hb14 hca hsa
             have hE4 : Ext w3 wa := Chg.trans' (((Ext.refl w3).alloc _).alloc _) hca (fun _ _ h => h) (fun i hi e => absurd hi (by omega))
             have hb15 : Blk wa (w3.heap.size + 1) 79 #[.int .i64 0, .string { data := #[] }] := (Blk.new' _ _ _ (by simp)).chg hca (by omega)
             have HX4 := hide (And.intro ((unhide HX3).1.next hE4) (And.intro ((unhide HX3).2.1.ext hE4) (And.intro hb14 (And.intro ((unhide HX3).2.2.chg hE4 (fun _ _ h => h)) hE4))))
             obtain ⟨c0, c1, fc, lc⟩ := hb15.cells2
             have HB := hide hb15
             clear hca hb14 hb15 hE4)
          | ((with_reducible show wpList _ _ _ (_ :: _) _ _)
             refine wpList_loadB (ty := 65) (t := 65) (x := .tmp 14) rfl rfl hw_wide rfl ?_ (unhide HH).1 ?_
             · exact ((unhide HX4).2.2.1.far (by simp) _).far (by simp) _)
          | ((with_reducible show wpList _ _ _ (_ :: _) _ _)
             refine wpList_storeB (ty := 65) (t := 65) (old := H) (x := .tmp 7) (y := .tmp 54) rfl rfl hw_wide rfl rfl ?_ (unhide HX4).1.hn (unhide HH).1 (unhide HH).2.1 ?_
             · exact ((unhide HX4).1.hw.far (show w.heap.size + 1 + 1 + 1 ≠ w3.heap.size + 1 from by have := unhide hlw; omega) _).far (show w.heap.size + 1 + 1 + 1 ≠ w3.heap.size + 1 from by have := unhide hlw; omega) _
             intro wb hb7 hcb hsb
             have hE5 : Chg (fun k => k = w.heap.size + 1 + 1 + 1 ∨ k = w3.heap.size + 1) wa wb := (((Chg.refl _ wa).setCell (p := ⟨w3.heap.size + 1, 0, none⟩) (.inl (.inr rfl)) _).setCell (p := ⟨w3.heap.size + 1, 1, none⟩) (.inl (.inr rfl)) _).trans (hcb.mono (fun _ _ h => .inl h))
             have hE6 : Chg (fun k => k = w.heap.size + 1 + 1 + 1) w3 wb := (unhide HX4).2.2.2.2.trans' hE5 (fun _ _ h => h.elim) (fun i hi e => by rcases e with e | e <;> omega)
             have hb13 := (unhide HX3).2.1.chg hE6 (by have := unhide hlw; omega)
             have hb15 := (((unhide HB).set_ 0 (.int .i64 v)).set_ 1 (.string noBytes)).chg hcb (by have := unhide hlw; omega)
             have hb15 : Blk wb (w3.heap.size + 1) 79 #[.int .i64 v, .string noBytes] := hb15
             have hout := (unhide HX3).1.out.chg hE6 (by omega)
             obtain ⟨d0, d1, d2, fd, ld⟩ := hb13.cells3
             obtain ⟨z0, z1, zf, zl⟩ := hb15.cells2
             have g0 := (hb7.cell 0).trans (unhide HH).2.2
             have g1 := hb7.frozen
             have HX6 := hide (And.intro hb7 (And.intro hE6 (And.intro hout hb15)))
             clear hcb hsb hE5 hb7 hE6 hb13 hb15 hout)
          | ((with_reducible show wpList _ _ _ (_ :: _) _ _)
             refine wpList_storeB (ty := 44) (t := 44) (old := run0) (x := .tmp 6) (y := .tmp 61) rfl rfl run_wide rfl rfl ?_ rfl rfl ?_ ?_
             · exact (unhide HX6).2.2.1
             · exact all_list rfl
             intro wc hb6 hcc hsc)
          | (at_builtin
             refine wpList_app rfl rfl res_row rfl (ownsRow_ext (ownsRow_chg (unhide HX3).1.own (unhide HX6).2.1 (fun k hk e => by have := ((unhide HX3).1.own.lt k hk).1; omega)) ((Ext.refl _).alloc _)) rfl (Reads.new _ #[.int .i64 v, .string noBytes] _ 2 1 1 [.int .i64 v, .string noBytes] rfl (by omega) (by unfold maxLen; omega) rfl) (all_two rfl rfl) (by omega) (by have := (unhide hlw).1; have := (unhide HX6).2.1.size; simp; omega) ?_
             intro A6 c6 w6 ho hc hv)
          | fail)
        · have hf1 : f1 = true := by assumption
          subst hf1
          obtain ⟨m, hm⟩ : ∃ m, 400 - i = m + 1 := ⟨399 - i, by omega⟩
          have hR := (unhide HX3).1.eq
          rw [hm, fuelLoop_ask, unhide HFF, if_pos rfl] at hR
          subst hR
          have hE : Ext w wc := ((unhide HX3).1.ext.chg.trans ((unhide HX6).2.1.trans' hcc (U := fun k => w.heap.size ≤ k) (fun _ _ h => by omega) (fun i hi e => by omega))).trans' (Chg.refl Non _) (fun k h1 h2 => by omega) (fun _ _ h => h.elim)
          have hc2 : Chg (fun k => k < w.heap.size + 4 ∧ w.heap.size ≤ k) w3 wc := (unhide HX6).2.1.trans' hcc (fun _ _ h => by omega) (fun i hi e => by omega)
          exact bodyPost_ret (results_one run_wide rfl hb6 rfl rfl) rfl ⟨.slice A5 1 c5, rfl, (unhide HX3).2.2.chg hc2 (fun k hk e => by omega), hE⟩
        · have hf1 : f1 = false := by assumption
          subst hf1
          have hV := (unhide HV).symm
          obtain ⟨m, hm⟩ : ∃ m, 400 - i = m + 1 := ⟨399 - i, by omega⟩
          have hR := (unhide HX3).1.eq
          rw [hm, fuelLoop_ask, unhide HFF, if_neg (by simp)] at hR
          have HW := hide (And.intro ho (And.intro hc (And.intro hV (And.intro hm hR))))
          clear ho hc hv hV hm hR
          go_wp2
          go_roundw
          case rel =>
            have hl := unhide hlw
            have hX := (unhide HX3).1
            obtain ⟨hb7, hE6, hout, hb15⟩ := unhide HX6
            obtain ⟨ho, hc, hV, hm, hR⟩ := unhide HW
            have ho8 := ownsRow_chg hX.own hE6 (fun k hk e => by have := (hX.own.lt k hk).1; omega)
            have ho9 := ownsRow_ext ho8 ((Ext.refl wb).alloc (.cells #[.int .i64 v, .string noBytes] 79))
            have hlt8 : ∀ j, u8.ownBlock = some j → w.heap.size + 4 ≤ j ∧ j < w3.heap.size := fun j hj => ⟨(hX.own.lt j hj).1, (hX.own.lt j hj).2⟩
            have hc7 : Chg (fun j => u8.ownBlock = some j) wb w6 := ((Ext.refl wb).alloc _).chg.trans hc
            have hc8 : Chg (fun j => j = w.heap.size + 1 + 1 + 1 ∨ u8.ownBlock = some j) w3 w6 := hE6.trans' hc7 (fun _ _ h => .inl h) (fun _ _ h => .inr h)
            have hsz : w3.heap.size ≤ wb.heap.size := hE6.size
            have hh := unhide HH
            refine ⟨i + 1, k ⟨v, noBytes⟩, afterC ⟨kd, bk, cl, bs⟩ (false, f2) cs, H', .slice A5 1 c5, log ++ [⟨v, noBytes⟩], by go_num, ⟨by omega, ?_, ?_, ?_, hX.inn.2.2.2.2.2 _, ?_, ?_, ?_, ?_, hh.1, hh.2.1, hh.2.2, ?_, ?_, ?_⟩⟩
            · rw [List.length_append, hX.len]; rfl
            · rw [logCells_snoc]; exact ho
            · exact hX.left.step _
            · rw [← hR, show 400 - (i + 1) = m from by omega, hV]; rfl
            · rw [afterC_length]; exact hX.cl
            · exact (((unhide HX3).2.2.chg hE6 (fun k hk e => by omega)).chg (S := Non) ((Ext.refl wb).alloc _) (fun _ _ h => h)).chgRow ho9 hc
            · exact hb7.chg hc7 (fun h => by have := hlt8 _ h; omega)
            · exact hX.ses.chg hc8 (fun h => by rcases h with h | h; · omega
                                                · have := hlt8 _ h; omega)
            · exact hX.out.chg hc8 (fun h => by rcases h with h | h; · omega
                                                · have := hlt8 _ h; omega)
            · exact hX.ext.trans' hc8 (fun _ _ h => h) (fun k hk h => by rcases h with h | h; · omega
                                                                         · have := hlt8 _ h; omega)
          case measure => simp [intOf]; omega
    · obtain rfl : i = 400 := by omega
      obtain ⟨h0, fh, lh⟩ : wr.cell? ⟨w.heap.size + 1 + 1 + 1, 0, none⟩ = some (.slice A' [cs].length c') ∧ (∀ i, wr.frozen? ⟨w.heap.size + 1 + 1 + 1, i, none⟩ = false) ∧ w.heap.size + 1 + 1 + 1 < wr.heap.size := ⟨((unhide HX).hw.cell 0).trans (unhide HX).h0, (unhide HX).hw.frozen, (unhide HX).hw.lt⟩
      go_wp2_with (first
          | ((with_reducible show wpList _ _ _ (_ :: _) _ _)
             refine wpList_storeB (ty := 44) (t := 44) (old := run0) (x := .tmp 6) (y := .tmp 68) rfl rfl run_wide rfl rfl ?_ rfl rfl ?_ ?_
             · exact (unhide HX).out
             · exact all_list rfl
             intro wa hb6 hca hsa)
          | fail)
      have hR := (unhide HX).eq
      rw [Nat.sub_self, fuelLoop_zero] at hR
      subst hR
      have hE : Ext w wa := (unhide HX).ext.trans' hca (fun _ _ h => h) (fun i hi e => by omega)
      exact bodyPost_ret (results_one run_wide rfl hb6 rfl rfl) rfl ⟨.slice A' 1 c', rfl, (unhide HX).fus.chg hca (fun k hk e => by omega), hE⟩

theorem execute_any (raise : Bool) (target : Int) (fl : Value) (faults : List Int) (fv : Value) (cells : List Int) (bits : Nat) (w : World) (hf : FusesIn w fv [cells]) (hfl : Reads w 1 fl faults.length (faults.map (Value.int .u8))) (h8 : ∀ x ∈ faults, isU8 x)
    (ht : isU8 target) (hb : bits ≤ 16) (hc : cells.length = 3 * bits) :
    Calls Try.prog 16 #[.agg #[fv], .agg #[.bool raise, .int .u8 target, fl], .int .i64 bits] w fun e w' =>
      ∃ fv', e = .returned (runV fv' (execR raise target faults bits cells)) ∧ FusesIn w' fv' [(execR raise target faults bits cells).cells] ∧ Ext w w' :=
  (execute_at raise target fl faults fv cells bits (FusesIn w) w hf (fun _ _ h => h) hfl h8 ht hb hc).mono fun _ _ ⟨fv', h1, h2, h3⟩ => ⟨fv', h1, h2.fuses (fun _ _ h => h.ext h3), h3⟩

end Go.Proofs.Ytmlekdmnpljcoaa
