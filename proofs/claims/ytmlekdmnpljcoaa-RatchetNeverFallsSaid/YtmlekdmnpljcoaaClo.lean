/-
  The programs of ratchet.Level and ratchet.Raise, and these two functions: replays of step programs.
-/
import Derived.Test.YtmlekdmnpljcoaaLev
import Derived.Test.YtmlekdmnpljcoaaRun
namespace Go.Proofs.Ytmlekdmnpljcoaa
open Go.RowKit

def validB (bank bits : Int) : Bool := decide (0 ≤ bank) && (decide (bank < 4) && (decide (0 ≤ bits) && decide (bits ≤ 16)))
theorem valid_any (a b : Int) (w : World) : Calls Try.prog 21 #[.int .i64 a, .int .i64 b] w fun e w' => e = .returned (.bool (validB a b)) ∧ w = w' := by
  go_enter Try.func21, Try.ntmps21
  go_wp2
  all_goals
    go_ret
    exact ⟨ret_bool (by simp [validB, *]; try omega), rfl⟩

def Prg.level (bank bits : Int) : Prg (Nat × Int) := if validB bank bits then (Prg.levelOf bank bits.toNat).bind fun n => .ret (n, 0) else .ret (0, 1)
def Prg.raise (bank bits target : Int) : Prg (Nat × Int) := if validB bank bits && (decide (0 ≤ target) && decide (target ≤ bits)) then Prg.raiseTo bank bits.toNat target.toNat else .ret (0, 1)

section
variable {σ ε : Type} {F : FuncId} {caps : Array Value} {d : Acc → σ → EStateM.Result ε σ Res} {pan : ε → Value} {Inv : σ → (Nat → Prop) → World → Prop} {S : Nat → Prop}

set_option maxHeartbeats 400000 in
theorem level_do (E : DoEnv Try.prog F caps d pan Inv S) (bank bits : Int) (bb bi : Nat) (s : σ) (X : Nat → Prop) (w : World) (h : Inv s X w) (hbb : w.cell? ⟨bb, 0, none⟩ = some (.int .i64 bank)) (hbi : w.cell? ⟨bi, 0, none⟩ = some (.int .i64 bits)) :
    Calls Try.prog 20 (#[.func (.func F) #[] caps] ++ #[.pointer (some ⟨bb, 0, none⟩), .pointer (some ⟨bi, 0, none⟩)]) w (StepPost Inv S X pan w outV ((Prg.level bank bits).run d s)) := by
  have HE := hide E
  clear E
  have HI := hide h
  clear h
  have lb := lt_of_cell hbb
  have li := lt_of_cell hbi
  simp only at lb li
  by_cases hv : validB bank bits = true
  · have hq : Hid ((Prg.level bank bits).run d s = ((Prg.levelOf bank bits.toNat).bind fun n => .ret (n, 0)).run d s) := hide (by unfold Prg.level; rw [if_pos hv])
    have hb : 0 ≤ bits ∧ bits ≤ 16 := by simp [validB] at hv; omega
    obtain ⟨nb, rfl⟩ := Int.eq_ofNat_of_zero_le hb.1
    have hnb : nb ≤ 1000 := by omega
    have HI1 := hide ((unhide HE).add s X w (w.alloc (.cells #[.int .i64 0, .int .i64 0] 30)) w.heap.size (unhide HI) (Chg.alloc (Chg.refl _ _) _) (Nat.le_refl _) (by simp))
    go_enter Try.func20, Try.ntmps20
    go_wp2_with fail
    refine (valid_any _ _ _).mono ?_
    rintro e w1 ⟨rfl, rfl⟩
    rw [hv]
    go_wp2_with fail
    refine (levelOf_do (unhide HE) bank nb hnb s _ _ (unhide HI1)).mono ?_
    intro e w1 hp
    cases hr : (Prg.levelOf bank nb).run d s with
    | ok n s' =>
      obtain ⟨rfl, h1, h2⟩ := hp.of_ok hr
      have hB := (Blk.new w 30 #[.int .i64 0, .int .i64 0]).chg h2 ((unhide HE).notS _ _ _ _ (unhide HI1) (.inr rfl))
      have c0 := hB.cell 0
      have c1 := hB.cell 1
      simp only [List.getElem?_toArray, List.getElem?_cons_zero, List.getElem?_cons_succ] at c0 c1
      have f0 := hB.frozen
      have HB := hide hB
      have HQ : Hid ((Prg.level bank (nb : Int)).run d s = .ok (n, 0) s') := hide (by rw [unhide hq]; exact Prg.run_bind_ok hr)
      have HC := hide (And.intro h1 h2)
      clear hp h1 h2 hr hB hq
      unfold natV
      go_wp2
      have hi1 := (unhide HE).chg _ _ _ (((w1.setCell ⟨w.heap.size, 0, none⟩ (.int .i64 (n : Int))).setCell ⟨w.heap.size, 1, none⟩ (.int .i64 0))) (unhide HC).1 (Chg.setCell (p := ⟨w.heap.size, 1, none⟩) (Chg.setCell (p := ⟨w.heap.size, 0, none⟩) (Chg.refl _ _) (.inl (.inr rfl)) _) (.inl (.inr rfl)) _)
      refine bodyPost_ret (v := .agg #[.int .i64 (n : Int), .int .i64 0]) (by simp [results, Try.results20, go_sem, c0, c1]) rfl ?_
      refine StepPost.ok (unhide HQ) rfl ((unhide HE).weak _ _ _ _ hi1 (fun k hk => .inl hk)) ?_
      have h0 : Chg S w (w.alloc (.cells #[.int .i64 0, .int .i64 0] 30)) := Chg.alloc (Chg.refl _ _) _
      exact Chg.setCell (p := ⟨w.heap.size, 1, none⟩) (Chg.setCell (p := ⟨w.heap.size, 0, none⟩) (h0.trans (unhide HC).2) (.inr (Nat.le_refl _)) _) (.inr (Nat.le_refl _)) _
    | error er s' =>
      obtain ⟨rfl, h1, h2⟩ := hp.of_err hr
      have h0 : Chg S w (w.alloc (.cells #[.int .i64 0, .int .i64 0] 30)) := Chg.alloc (Chg.refl _ _) _
      exact ⟨rfl, StepPost.err (by rw [unhide hq]; exact Prg.run_bind_error hr) rfl ((unhide HE).weak _ _ _ _ h1 (fun k hk => .inl hk)) (h0.trans h2)⟩
  · have hq : Hid ((Prg.level bank bits).run d s = .ok (0, 1) s) := hide (by unfold Prg.level; rw [if_neg hv]; rfl)
    have hv' : validB bank bits = false := by simpa using hv
    clear hv
    go_enter Try.func20, Try.ntmps20
    go_wp2_with fail
    refine (valid_any _ _ _).mono ?_
    rintro e w1 ⟨rfl, rfl⟩
    rw [hv']
    go_wp2
    refine bodyPost_ret (v := .agg #[.int .i64 0, .int .i64 1]) (by simp [results, Try.results20, go_sem]) rfl ?_
    refine StepPost.ok (unhide hq) rfl ((unhide HE).chg _ _ _ _ (unhide HI) ?_) ?_
    · repeat' (first | (with_reducible exact Chg.refl _ _) | (with_reducible exact Ext.refl _) | (with_reducible assumption) | (with_reducible refine Chg.alloc ?_ _) | (with_reducible refine Chg.drew ?_) | (with_reducible refine Chg.drewN ?_ _) | (with_reducible refine Chg.setCell ?_ ?_ _) | (with_reducible refine Ext.alloc ?_ _) | (with_reducible refine Ext.drew ?_) | (with_reducible refine Ext.drewN ?_ _) | (with_reducible refine Ext.setCell ?_ ?_ _) | (simp; done) | (simp; omega) | omega)
    · repeat' (first | (with_reducible exact Chg.refl _ _) | (with_reducible exact Ext.refl _) | (with_reducible assumption) | (with_reducible refine Chg.alloc ?_ _) | (with_reducible refine Chg.drew ?_) | (with_reducible refine Chg.drewN ?_ _) | (with_reducible refine Chg.setCell ?_ ?_ _) | (with_reducible refine Ext.alloc ?_ _) | (with_reducible refine Ext.drew ?_) | (with_reducible refine Ext.drewN ?_ _) | (with_reducible refine Ext.setCell ?_ ?_ _) | (simp; done) | (simp; omega) | omega)
theorem pair_eq (p : Nat × Int) : pairV p = .tuple #[.int .i64 p.1, .int .i64 p.2] := rfl

set_option maxHeartbeats 1000000 in
theorem raise_do (E : DoEnv Try.prog F caps d pan Inv S) (bank bits target : Int) (bb bi bt : Nat) (s : σ) (X : Nat → Prop) (w : World) (h : Inv s X w) (hbb : w.cell? ⟨bb, 0, none⟩ = some (.int .i64 bank)) (hbi : w.cell? ⟨bi, 0, none⟩ = some (.int .i64 bits)) (hbt : w.cell? ⟨bt, 0, none⟩ = some (.int .i64 target)) :
    Calls Try.prog 25 (#[.func (.func F) #[] caps] ++ #[.pointer (some ⟨bb, 0, none⟩), .pointer (some ⟨bi, 0, none⟩), .pointer (some ⟨bt, 0, none⟩)]) w (StepPost Inv S X pan w outV ((Prg.raise bank bits target).run d s)) := by
  have HE := hide E
  clear E
  have HI := hide h
  clear h
  have lb := lt_of_cell hbb
  have li := lt_of_cell hbi
  have lt := lt_of_cell hbt
  simp only at lb li lt
  by_cases hv : validB bank bits = true
  · have hb : 0 ≤ bits ∧ bits ≤ 16 := by simp [validB] at hv; omega
    by_cases ht0 : target < 0
    · have hq : Hid ((Prg.raise bank bits target).run d s = .ok (0, 1) s) := hide (by unfold Prg.raise; rw [if_neg (by simp; omega)]; rfl)
      go_enter Try.func25, Try.ntmps25
      go_wp2_with fail
      refine (valid_any _ _ _).mono ?_
      rintro e w1 ⟨rfl, rfl⟩
      rw [hv]
      go_wp2
      refine bodyPost_ret (v := .agg #[.int .i64 0, .int .i64 1]) (by simp [results, Try.results25, go_sem]) rfl ?_
      refine StepPost.ok (unhide hq) rfl ((unhide HE).chg _ _ _ _ (unhide HI) ?_) ?_
      · repeat' (first | (with_reducible exact Chg.refl _ _) | (with_reducible exact Ext.refl _) | (with_reducible assumption) | (with_reducible refine Chg.alloc ?_ _) | (with_reducible refine Chg.drew ?_) | (with_reducible refine Chg.drewN ?_ _) | (with_reducible refine Chg.setCell ?_ ?_ _) | (with_reducible refine Ext.alloc ?_ _) | (with_reducible refine Ext.drew ?_) | (with_reducible refine Ext.drewN ?_ _) | (with_reducible refine Ext.setCell ?_ ?_ _) | (simp; done) | (simp; omega) | omega)
      · repeat' (first | (with_reducible exact Chg.refl _ _) | (with_reducible exact Ext.refl _) | (with_reducible assumption) | (with_reducible refine Chg.alloc ?_ _) | (with_reducible refine Chg.drew ?_) | (with_reducible refine Chg.drewN ?_ _) | (with_reducible refine Chg.setCell ?_ ?_ _) | (with_reducible refine Ext.alloc ?_ _) | (with_reducible refine Ext.drew ?_) | (with_reducible refine Ext.drewN ?_ _) | (with_reducible refine Ext.setCell ?_ ?_ _) | (simp; done) | (simp; omega) | omega)
    · by_cases ht1 : bits < target
      · have hq : Hid ((Prg.raise bank bits target).run d s = .ok (0, 1) s) := hide (by unfold Prg.raise; rw [if_neg (by simp; omega)]; rfl)
        go_enter Try.func25, Try.ntmps25
        go_wp2_with fail
        refine (valid_any _ _ _).mono ?_
        rintro e w1 ⟨rfl, rfl⟩
        rw [hv]
        go_wp2
        refine bodyPost_ret (v := .agg #[.int .i64 0, .int .i64 1]) (by simp [results, Try.results25, go_sem]) rfl ?_
        refine StepPost.ok (unhide hq) rfl ((unhide HE).chg _ _ _ _ (unhide HI) ?_) ?_
        · repeat' (first | (with_reducible exact Chg.refl _ _) | (with_reducible exact Ext.refl _) | (with_reducible assumption) | (with_reducible refine Chg.alloc ?_ _) | (with_reducible refine Chg.drew ?_) | (with_reducible refine Chg.drewN ?_ _) | (with_reducible refine Chg.setCell ?_ ?_ _) | (with_reducible refine Ext.alloc ?_ _) | (with_reducible refine Ext.drew ?_) | (with_reducible refine Ext.drewN ?_ _) | (with_reducible refine Ext.setCell ?_ ?_ _) | (simp; done) | (simp; omega) | omega)
        · repeat' (first | (with_reducible exact Chg.refl _ _) | (with_reducible exact Ext.refl _) | (with_reducible assumption) | (with_reducible refine Chg.alloc ?_ _) | (with_reducible refine Chg.drew ?_) | (with_reducible refine Chg.drewN ?_ _) | (with_reducible refine Chg.setCell ?_ ?_ _) | (with_reducible refine Ext.alloc ?_ _) | (with_reducible refine Ext.drew ?_) | (with_reducible refine Ext.drewN ?_ _) | (with_reducible refine Ext.setCell ?_ ?_ _) | (simp; done) | (simp; omega) | omega)
      · obtain ⟨nb, rfl⟩ := Int.eq_ofNat_of_zero_le hb.1
        obtain ⟨nt, rfl⟩ := Int.eq_ofNat_of_zero_le (show 0 ≤ target by omega)
        have hq : Hid ((Prg.raise bank (nb : Int) (nt : Int)).run d s = (Prg.raiseTo bank nb nt).run d s) := hide (by unfold Prg.raise; rw [if_pos (by simp [hv]; omega)]; rfl)
        have hnb : nb ≤ 1000 := by omega
        have hnt : nt ≤ 1000 := by omega
        have HI1 := hide ((unhide HE).add s X w (w.alloc (.cells #[.int .i64 0, .int .i64 0] 30)) w.heap.size (unhide HI) (Chg.alloc (Chg.refl _ _) _) (Nat.le_refl _) (by simp))
        go_enter Try.func25, Try.ntmps25
        go_wp2_with fail
        refine (valid_any _ _ _).mono ?_
        rintro e w1 ⟨rfl, rfl⟩
        rw [hv]
        go_wp2_with fail
        refine (raiseTo_do (unhide HE) bank nb nt hnb hnt s _ _ (unhide HI1)).mono ?_
        intro e w1 hp
        cases hr : (Prg.raiseTo bank nb nt).run d s with
        | ok n s' =>
          obtain ⟨rfl, h1, h2⟩ := hp.of_ok hr
          have hB := (Blk.new w 30 #[.int .i64 0, .int .i64 0]).chg h2 ((unhide HE).notS _ _ _ _ (unhide HI1) (.inr rfl))
          have c0 := hB.cell 0
          have c1 := hB.cell 1
          simp only [List.getElem?_toArray, List.getElem?_cons_zero, List.getElem?_cons_succ] at c0 c1
          have f0 := hB.frozen
          obtain ⟨n, er⟩ := n
          have HQ : Hid ((Prg.raise bank (nb : Int) (nt : Int)).run d s = .ok (n, er) s') := hide (by rw [unhide hq]; exact hr)
          have HC := hide (And.intro h1 h2)
          clear hp h1 h2 hr hB hq
          simp only [pair_eq]
          go_wp2
          have hi1 := (unhide HE).chg _ _ _ (((w1.setCell ⟨w.heap.size, 0, none⟩ (.int .i64 (n : Int))).setCell ⟨w.heap.size, 1, none⟩ (.int .i64 er))) (unhide HC).1 (Chg.setCell (p := ⟨w.heap.size, 1, none⟩) (Chg.setCell (p := ⟨w.heap.size, 0, none⟩) (Chg.refl _ _) (.inl (.inr rfl)) _) (.inl (.inr rfl)) _)
          refine bodyPost_ret (v := .agg #[.int .i64 (n : Int), .int .i64 er]) (by simp [results, Try.results25, go_sem, c0, c1]) rfl ?_
          refine StepPost.ok (unhide HQ) rfl ((unhide HE).weak _ _ _ _ hi1 (fun k hk => .inl hk)) ?_
          have h0 : Chg S w (w.alloc (.cells #[.int .i64 0, .int .i64 0] 30)) := Chg.alloc (Chg.refl _ _) _
          exact Chg.setCell (p := ⟨w.heap.size, 1, none⟩) (Chg.setCell (p := ⟨w.heap.size, 0, none⟩) (h0.trans (unhide HC).2) (.inr (Nat.le_refl _)) _) (.inr (Nat.le_refl _)) _
        | error er s' =>
          obtain ⟨rfl, h1, h2⟩ := hp.of_err hr
          have h0 : Chg S w (w.alloc (.cells #[.int .i64 0, .int .i64 0] 30)) := Chg.alloc (Chg.refl _ _) _
          exact ⟨rfl, StepPost.err (by rw [unhide hq]; exact hr) rfl ((unhide HE).weak _ _ _ _ h1 (fun k hk => .inl hk)) (h0.trans h2)⟩
  · have hq : Hid ((Prg.raise bank bits target).run d s = .ok (0, 1) s) := hide (by unfold Prg.raise; rw [if_neg (by simp [hv])]; rfl)
    have hv' : validB bank bits = false := by simpa using hv
    clear hv
    go_enter Try.func25, Try.ntmps25
    go_wp2_with fail
    refine (valid_any _ _ _).mono ?_
    rintro e w1 ⟨rfl, rfl⟩
    rw [hv']
    go_wp2
    refine bodyPost_ret (v := .agg #[.int .i64 0, .int .i64 1]) (by simp [results, Try.results25, go_sem]) rfl ?_
    refine StepPost.ok (unhide hq) rfl ((unhide HE).chg _ _ _ _ (unhide HI) ?_) ?_
    · repeat' (first | (with_reducible exact Chg.refl _ _) | (with_reducible exact Ext.refl _) | (with_reducible assumption) | (with_reducible refine Chg.alloc ?_ _) | (with_reducible refine Chg.drew ?_) | (with_reducible refine Chg.drewN ?_ _) | (with_reducible refine Chg.setCell ?_ ?_ _) | (with_reducible refine Ext.alloc ?_ _) | (with_reducible refine Ext.drew ?_) | (with_reducible refine Ext.drewN ?_ _) | (with_reducible refine Ext.setCell ?_ ?_ _) | (simp; done) | (simp; omega) | omega)
    · repeat' (first | (with_reducible exact Chg.refl _ _) | (with_reducible exact Ext.refl _) | (with_reducible assumption) | (with_reducible refine Chg.alloc ?_ _) | (with_reducible refine Chg.drew ?_) | (with_reducible refine Chg.drewN ?_ _) | (with_reducible refine Chg.setCell ?_ ?_ _) | (with_reducible refine Ext.alloc ?_ _) | (with_reducible refine Ext.drew ?_) | (with_reducible refine Ext.drewN ?_ _) | (with_reducible refine Ext.setCell ?_ ?_ _) | (simp; done) | (simp; omega) | omega)
end

def levelR (bank bits : Int) (log : List Res) : EStateM.Result Acc Nat (Nat × Int) := (Prg.level bank bits).run (replay log) 0
def raiseR (bank bits target : Int) (log : List Res) : EStateM.Result Acc Nat (Nat × Int) := (Prg.raise bank bits target).run (replay log) 0

/-- What play.Run returns, cell by cell. -/
def ranA : EStateM.Result Acc Nat (Nat × Int) → Acc
  | .ok _ _ => ⟨0, 0, 0, noBytes⟩
  | .error a _ => a
def ranP : EStateM.Result Acc Nat (Nat × Int) → Nat × Int
  | .ok p _ => p
  | .error _ _ => (0, 0)
def ranD : EStateM.Result Acc Nat (Nat × Int) → Bool
  | .ok _ _ => true
  | .error _ _ => false
theorem ranV_eq (r : EStateM.Result Acc Nat (Nat × Int)) : ranV r = .tuple #[(ranA r).v, outV (ranP r), .bool (ranD r)] := by cases r <;> rfl

theorem ranV_parts (r : EStateM.Result Acc Nat (Nat × Int)) : ∃ (ak ab ac : Int) (ax : ByteArray) (p1 p2 : Int) (d : Bool), ranV r = .tuple #[.agg #[.int .i64 ak, .int .i64 ab, .int .i64 ac, .string ax], .agg #[.int .i64 p1, .int .i64 p2], .bool d] := by
  rw [ranV_eq]
  exact ⟨_, _, _, _, _, _, _, rfl⟩

set_option maxHeartbeats 1000000 in
theorem level_any (bank bits : Int) (lv : Value) (log : List Res) (w : World) (hl : Reads w 2 lv log.length (logCells log)) :
    Calls Try.prog 10 #[.int .i64 bank, .int .i64 bits, lv] w fun e w' => e = .returned (ranV (levelR bank bits log)) ∧ Ext w w' := by
  have hmf : ∀ (fn : Fn) (first cap : Array Value) (w : World), (Instr.makeFunc fn first cap).run Try.prog w = .ok (.func fn first cap) w := fun _ _ _ _ => rfl
  have hcall : ∀ (args : Array Value) (w : World), (callFunc 20 args).run Try.prog w = .ok (.enter 20 args) w := fun args w => by kernel_rfl
  have HL := hide hl
  obtain ⟨_, B, c, rfl, hnc, hcm, _⟩ := hl
  have HK := hide hcall
  clear hnc hcm hcall
  go_enter Try.func10, Try.ntmps10
  go_wp2_with fail
  have HE : Hid (Ext w (((((w.alloc (.cells #[.int .i64 bank] 3)).alloc (.cells #[.int .i64 bits] 3))).alloc (.cells #[.int .i64 0, .int .i64 0, .int .i64 0, .string { data := #[] }] 27)).alloc (.cells #[.int .i64 0, .int .i64 0] 30))) := hide (by
    repeat' (first | (with_reducible exact Chg.refl _ _) | (with_reducible exact Ext.refl _) | (with_reducible assumption) | (with_reducible refine Chg.alloc ?_ _) | (with_reducible refine Chg.drew ?_) | (with_reducible refine Chg.drewN ?_ _) | (with_reducible refine Chg.setCell ?_ ?_ _) | (with_reducible refine Ext.alloc ?_ _) | (with_reducible refine Ext.drew ?_) | (with_reducible refine Ext.drewN ?_ _) | (with_reducible refine Ext.setCell ?_ ?_ _) | (simp; done) | (simp; omega) | omega)
    )
  refine (run_any 20 _ _ log (Prg.level bank bits) _ ((unhide HL).ext (unhide HE)) (unhide HK) ?_).mono ?_
  · intro A L X w1 hE hI
    refine level_do (run_env A L _ log) bank bits w.heap.size (w.heap.size + 1) 0 X w1 hI ?_ ?_
    · exact Ext.cellv hE (((((Blk.new w _ _).alloc _).alloc _).alloc _).cell 0)
    · exact Ext.cellv hE (((((Blk.new' _ _ _ (by simp)).alloc _).alloc _)).cell 0)
  · rintro e w1 ⟨rfl, hE⟩
    have hA := ((Blk.new' ((w.alloc (.cells #[.int .i64 bank] 3)).alloc (.cells #[.int .i64 bits] 3)) 27 #[.int .i64 0, .int .i64 0, .int .i64 0, .string { data := #[] }] (g := w.heap.size + 1 + 1) (by simp)).alloc (.cells #[.int .i64 0, .int .i64 0] 30)).ext hE
    have hO := (Blk.new' (((w.alloc (.cells #[.int .i64 bank] 3)).alloc (.cells #[.int .i64 bits] 3)).alloc (.cells #[.int .i64 0, .int .i64 0, .int .i64 0, .string { data := #[] }] 27)) 30 #[.int .i64 0, .int .i64 0] (g := w.heap.size + 1 + 1 + 1) (by simp)).ext hE
    obtain ⟨a0, a1, a2, a3, fA, lA⟩ := hA.cells4
    obtain ⟨o0, o1, fO, lO⟩ := hO.cells2
    have hx := hide ((unhide HE).trans hE)
    have HA := hide hA
    have HO := hide hO
    clear hE HE hA hO
    obtain ⟨ak, ab, ac, ax, p1, p2, d, hv⟩ := ranV_parts (levelR bank bits log)
    have HV := hide hv
    rw [show ranV ((Prg.level bank bits).run (replay log) 0) = _ from hv]
    clear hv
    go_wp2
    refine bodyPost_ret (v := .tuple #[.agg #[.int .i64 ak, .int .i64 ab, .int .i64 ac, .string ax], .agg #[.int .i64 p1, .int .i64 p2], .bool d]) (by simp [results, Try.results10, go_sem, a0, a1, a2, a3, o0, o1]) rfl ⟨by rw [unhide HV], ?_⟩
    have hx1 := unhide hx
    clear hx
    repeat' (first | (with_reducible exact Chg.refl _ _) | (with_reducible exact Ext.refl _) | (with_reducible assumption) | (with_reducible refine Chg.alloc ?_ _) | (with_reducible refine Chg.drew ?_) | (with_reducible refine Chg.drewN ?_ _) | (with_reducible refine Chg.setCell ?_ ?_ _) | (with_reducible refine Ext.alloc ?_ _) | (with_reducible refine Ext.drew ?_) | (with_reducible refine Ext.drewN ?_ _) | (with_reducible refine Ext.setCell ?_ ?_ _) | (simp; done) | (simp; omega) | omega)

set_option maxHeartbeats 1000000 in
theorem raise_any (bank bits target : Int) (lv : Value) (log : List Res) (w : World) (hl : Reads w 2 lv log.length (logCells log)) :
    Calls Try.prog 12 #[.int .i64 bank, .int .i64 bits, .int .i64 target, lv] w fun e w' => e = .returned (ranV (raiseR bank bits target log)) ∧ Ext w w' := by
  have hmf : ∀ (fn : Fn) (first cap : Array Value) (w : World), (Instr.makeFunc fn first cap).run Try.prog w = .ok (.func fn first cap) w := fun _ _ _ _ => rfl
  have hcall : ∀ (args : Array Value) (w : World), (callFunc 25 args).run Try.prog w = .ok (.enter 25 args) w := fun args w => by kernel_rfl
  have HL := hide hl
  obtain ⟨_, B, c, rfl, hnc, hcm, _⟩ := hl
  have HK := hide hcall
  clear hnc hcm hcall
  go_enter Try.func12, Try.ntmps12
  go_wp2_with fail
  have HE : Hid (Ext w ((((((w.alloc (.cells #[.int .i64 bank] 3)).alloc (.cells #[.int .i64 bits] 3))).alloc (.cells #[.int .i64 target] 3)).alloc (.cells #[.int .i64 0, .int .i64 0, .int .i64 0, .string { data := #[] }] 27)).alloc (.cells #[.int .i64 0, .int .i64 0] 30))) := hide (by
    repeat' (first | (with_reducible exact Chg.refl _ _) | (with_reducible exact Ext.refl _) | (with_reducible assumption) | (with_reducible refine Chg.alloc ?_ _) | (with_reducible refine Chg.drew ?_) | (with_reducible refine Chg.drewN ?_ _) | (with_reducible refine Chg.setCell ?_ ?_ _) | (with_reducible refine Ext.alloc ?_ _) | (with_reducible refine Ext.drew ?_) | (with_reducible refine Ext.drewN ?_ _) | (with_reducible refine Ext.setCell ?_ ?_ _) | (simp; done) | (simp; omega) | omega)
    )
  refine (run_any 25 _ _ log (Prg.raise bank bits target) _ ((unhide HL).ext (unhide HE)) (unhide HK) ?_).mono ?_
  · intro A L X w1 hE hI
    refine raise_do (run_env A L _ log) bank bits target w.heap.size (w.heap.size + 1) (w.heap.size + 1 + 1) 0 X w1 hI ?_ ?_ ?_
    · exact Ext.cellv hE ((((((Blk.new w _ _).alloc _).alloc _).alloc _).alloc _).cell 0)
    · exact Ext.cellv hE ((((((Blk.new' _ _ _ (by simp)).alloc _).alloc _).alloc _)).cell 0)
    · exact Ext.cellv hE (((((Blk.new' _ _ _ (by simp)).alloc _).alloc _)).cell 0)
  · rintro e w1 ⟨rfl, hE⟩
    have hA := ((Blk.new' (((w.alloc (.cells #[.int .i64 bank] 3)).alloc (.cells #[.int .i64 bits] 3)).alloc (.cells #[.int .i64 target] 3)) 27 #[.int .i64 0, .int .i64 0, .int .i64 0, .string { data := #[] }] (g := w.heap.size + 1 + 1 + 1) (by simp)).alloc (.cells #[.int .i64 0, .int .i64 0] 30)).ext hE
    have hO := (Blk.new' ((((w.alloc (.cells #[.int .i64 bank] 3)).alloc (.cells #[.int .i64 bits] 3)).alloc (.cells #[.int .i64 target] 3)).alloc (.cells #[.int .i64 0, .int .i64 0, .int .i64 0, .string { data := #[] }] 27)) 30 #[.int .i64 0, .int .i64 0] (g := w.heap.size + 1 + 1 + 1 + 1) (by simp)).ext hE
    obtain ⟨a0, a1, a2, a3, fA, lA⟩ := hA.cells4
    obtain ⟨o0, o1, fO, lO⟩ := hO.cells2
    have hx := hide ((unhide HE).trans hE)
    have HA := hide hA
    have HO := hide hO
    clear hE HE hA hO
    obtain ⟨ak, ab, ac, ax, p1, p2, d, hv⟩ := ranV_parts (raiseR bank bits target log)
    have HV := hide hv
    rw [show ranV ((Prg.raise bank bits target).run (replay log) 0) = _ from hv]
    clear hv
    go_wp2
    refine bodyPost_ret (v := .tuple #[.agg #[.int .i64 ak, .int .i64 ab, .int .i64 ac, .string ax], .agg #[.int .i64 p1, .int .i64 p2], .bool d]) (by simp [results, Try.results12, go_sem, a0, a1, a2, a3, o0, o1]) rfl ⟨by rw [unhide HV], ?_⟩
    have hx1 := unhide hx
    clear hx
    repeat' (first | (with_reducible exact Chg.refl _ _) | (with_reducible exact Ext.refl _) | (with_reducible assumption) | (with_reducible refine Chg.alloc ?_ _) | (with_reducible refine Chg.drew ?_) | (with_reducible refine Chg.drewN ?_ _) | (with_reducible refine Chg.setCell ?_ ?_ _) | (with_reducible refine Ext.alloc ?_ _) | (with_reducible refine Ext.drew ?_) | (with_reducible refine Ext.drewN ?_ _) | (with_reducible refine Ext.setCell ?_ ?_ _) | (simp; done) | (simp; omega) | omega)

end Go.Proofs.Ytmlekdmnpljcoaa
