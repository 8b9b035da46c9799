/-
  bootchainref11.Level returns what the replayed step program comes to.
-/
import Derived.Test.YtmlekdmnpljcoaaRef
namespace Go.Proofs.Ytmlekdmnpljcoaa
open Go.RowKit

set_option maxRecDepth 100000 in
set_option maxHeartbeats 1000000 in
theorem ref_level (bank bits : Int) (lv : Value) (log : List Res) (w : World) (hl : Reads w 2 lv log.length (logCells log)) :
    Calls Try.prog 11 #[.int .i64 bank, .int .i64 bits, lv] w fun e w' => e = .returned (ranV (levelR bank bits log)) ∧ Ext w w' := by
  have HL := hide hl
  obtain ⟨_, B, cp, rfl, hnc, hcm, _⟩ := hl
  clear hnc hcm
  by_cases hv : validB bank bits = true
  · have hb : (0 ≤ bank ∧ bank ≤ 3) ∧ 0 ≤ bits ∧ bits ≤ 16 := by simp [validB] at hv; omega
    obtain ⟨⟨hb1, hb2⟩, hb3, hb4⟩ := hb
    obtain ⟨nb, rfl⟩ := Int.eq_ofNat_of_zero_le hb3
    have hq : Hid (levelR bank (nb : Int) log = ((Prg.levelOf bank nb).bind fun n => .ret (n, 0)).run (replay log) 0) := hide (by unfold levelR Prg.level; rw [if_pos hv]; rfl)
    have hnb : nb ≤ 1000 := by omega
    clear hv
    go_enter Try.func11, Try.ntmps11
    go_wp2_with fail
    refine (ref_levelOf (w.heap.size + 1 + 1) (.slice B log.length cp) log bank nb hnb st0 _ ?_).mono ?_
    · refine ⟨Blk.new' _ _ _ (by simp), (unhide HL).ext ?_, fun hn hk => ?_, Nat.zero_le _⟩
      · repeat' (first | (with_reducible exact Chg.refl _ _) | (with_reducible exact Ext.refl _) | (with_reducible assumption) | (with_reducible refine Chg.alloc ?_ _) | (with_reducible refine Chg.drew ?_) | (with_reducible refine Chg.drewN ?_ _) | (with_reducible refine Chg.setCell ?_ ?_ _) | (with_reducible refine Ext.alloc ?_ _) | (with_reducible refine Ext.drew ?_) | (with_reducible refine Ext.drewN ?_ _) | (with_reducible refine Ext.setCell ?_ ?_ _) | (simp; done) | (simp; omega) | omega)
      · have := (unhide HL).own_lt (by omega) hn _ hk
        omega
    rintro e w1 ⟨⟨⟨a, rfl, ha⟩, h1, h2⟩, _⟩
    have hE : Ext w w1 := by
      refine Chg.trans' (S := Non) (T := fun k => k = w.heap.size + 1 + 1) (b := ((w.alloc (.cells #[.int .i64 0, .int .i64 0, .int .i64 0, .string { data := #[] }] 27)).alloc (.cells #[.int .i64 0, .int .i64 0] 30)).alloc (.cells (curCells (.slice B log.length cp) st0) 68)) ?_ h2 (fun _ _ h => h) (fun i hi e => by omega)
      repeat' (first | (with_reducible exact Chg.refl _ _) | (with_reducible exact Ext.refl _) | (with_reducible assumption) | (with_reducible refine Chg.alloc ?_ _) | (with_reducible refine Chg.drew ?_) | (with_reducible refine Chg.drewN ?_ _) | (with_reducible refine Chg.setCell ?_ ?_ _) | (with_reducible refine Ext.alloc ?_ _) | (with_reducible refine Ext.drew ?_) | (with_reducible refine Ext.drewN ?_ _) | (with_reducible refine Ext.setCell ?_ ?_ _) | (simp; done) | (simp; omega) | omega)
    have hA := (((Blk.new w 27 #[.int .i64 0, .int .i64 0, .int .i64 0, .string { data := #[] }]).alloc (.cells #[.int .i64 0, .int .i64 0] 30)).alloc (.cells (curCells (.slice B log.length cp) st0) 68)).chg h2 (by omega)
    have hO := ((Blk.new' (w.alloc (.cells #[.int .i64 0, .int .i64 0, .int .i64 0, .string { data := #[] }] 27)) 30 #[.int .i64 0, .int .i64 0] (g := w.heap.size + 1) (by simp)).alloc (.cells (curCells (.slice B log.length cp) st0) 68)).chg h2 (by omega)
    have HT := hide (told_eq log (Prg.levelOf bank nb) (fun n => (n, 0)) a ha)
    have HC := hide (And.intro h1 (And.intro hE (And.intro hA hO)))
    clear hA hO hE h1 h2 ha
    generalize (curRun log (Prg.levelOf bank nb) st0).2 = s1 at *
    simp only [natV]
    go_wp2_with fail
    refine (ref_told (w.heap.size + 1 + 1) (.slice B log.length cp) log (a : Int) 0 s1 _ (unhide HC).1).mono ?_
    rintro e w2 ⟨rfl, hE2⟩
    obtain ⟨a0, a1, a2, a3, fA, lA⟩ := ((unhide HC).2.2.1.ext hE2).cells4
    obtain ⟨o0, o1, fO, lO⟩ := ((unhide HC).2.2.2.ext hE2).cells2
    have HX := hide ((unhide HC).2.1.trans hE2)
    clear hE2 HC
    obtain ⟨ak, ab, ac, ax, p1, p2, d, hv⟩ := toldV_parts s1 (a : Int) 0
    have HV := hide hv
    rw [hv]
    clear hv
    go_wp2
    refine bodyPost_ret (v := .tuple #[.agg #[.int .i64 ak, .int .i64 ab, .int .i64 ac, .string ax], .agg #[.int .i64 p1, .int .i64 p2], .bool d]) (by simp [results, Try.results11, go_sem, a0, a1, a2, a3, o0, o1]) rfl ⟨by rw [unhide hq, ← unhide HV]; exact congrArg _ (unhide HT), ?_⟩
    have hx := unhide HX
    repeat' (first | (with_reducible exact Chg.refl _ _) | (with_reducible exact Ext.refl _) | (with_reducible assumption) | (with_reducible refine Chg.alloc ?_ _) | (with_reducible refine Chg.drew ?_) | (with_reducible refine Chg.drewN ?_ _) | (with_reducible refine Chg.setCell ?_ ?_ _) | (with_reducible refine Ext.alloc ?_ _) | (with_reducible refine Ext.drew ?_) | (with_reducible refine Ext.drewN ?_ _) | (with_reducible refine Ext.setCell ?_ ?_ _) | (simp; done) | (simp; omega) | omega)
  · have hq : Hid (levelR bank bits log = .ok (0, 1) 0) := hide (by unfold levelR Prg.level; rw [if_neg hv]; rfl)
    have hb : bank < 0 ∨ 3 < bank ∨ bits < 0 ∨ 16 < bits := by simp [validB] at hv; omega
    clear hv
    rcases hb with hb | hb | hb | hb
    · go_enter Try.func11, Try.ntmps11
      go_wp2
      refine bodyPost_ret (v := .tuple #[.agg #[.int .i64 0, .int .i64 0, .int .i64 0, .string { data := #[] }], .agg #[.int .i64 0, .int .i64 1], .bool true]) (by simp [results, Try.results11, go_sem]) rfl ⟨by rw [unhide hq]; rfl, ?_⟩
      repeat' (first | (with_reducible exact Chg.refl _ _) | (with_reducible exact Ext.refl _) | (with_reducible assumption) | (with_reducible refine Chg.alloc ?_ _) | (with_reducible refine Chg.drew ?_) | (with_reducible refine Chg.drewN ?_ _) | (with_reducible refine Chg.setCell ?_ ?_ _) | (with_reducible refine Ext.alloc ?_ _) | (with_reducible refine Ext.drew ?_) | (with_reducible refine Ext.drewN ?_ _) | (with_reducible refine Ext.setCell ?_ ?_ _) | (simp; done) | (simp; omega) | omega)
    · go_enter Try.func11, Try.ntmps11
      go_wp2
      refine bodyPost_ret (v := .tuple #[.agg #[.int .i64 0, .int .i64 0, .int .i64 0, .string { data := #[] }], .agg #[.int .i64 0, .int .i64 1], .bool true]) (by simp [results, Try.results11, go_sem]) rfl ⟨by rw [unhide hq]; rfl, ?_⟩
      repeat' (first | (with_reducible exact Chg.refl _ _) | (with_reducible exact Ext.refl _) | (with_reducible assumption) | (with_reducible refine Chg.alloc ?_ _) | (with_reducible refine Chg.drew ?_) | (with_reducible refine Chg.drewN ?_ _) | (with_reducible refine Chg.setCell ?_ ?_ _) | (with_reducible refine Ext.alloc ?_ _) | (with_reducible refine Ext.drew ?_) | (with_reducible refine Ext.drewN ?_ _) | (with_reducible refine Ext.setCell ?_ ?_ _) | (simp; done) | (simp; omega) | omega)
    · by_cases h1 : bank < 0
      · go_enter Try.func11, Try.ntmps11
        go_wp2
        refine bodyPost_ret (v := .tuple #[.agg #[.int .i64 0, .int .i64 0, .int .i64 0, .string { data := #[] }], .agg #[.int .i64 0, .int .i64 1], .bool true]) (by simp [results, Try.results11, go_sem]) rfl ⟨by rw [unhide hq]; rfl, ?_⟩
        repeat' (first | (with_reducible exact Chg.refl _ _) | (with_reducible exact Ext.refl _) | (with_reducible assumption) | (with_reducible refine Chg.alloc ?_ _) | (with_reducible refine Chg.drew ?_) | (with_reducible refine Chg.drewN ?_ _) | (with_reducible refine Chg.setCell ?_ ?_ _) | (with_reducible refine Ext.alloc ?_ _) | (with_reducible refine Ext.drew ?_) | (with_reducible refine Ext.drewN ?_ _) | (with_reducible refine Ext.setCell ?_ ?_ _) | (simp; done) | (simp; omega) | omega)
      · by_cases h2 : 3 < bank
        · go_enter Try.func11, Try.ntmps11
          go_wp2
          refine bodyPost_ret (v := .tuple #[.agg #[.int .i64 0, .int .i64 0, .int .i64 0, .string { data := #[] }], .agg #[.int .i64 0, .int .i64 1], .bool true]) (by simp [results, Try.results11, go_sem]) rfl ⟨by rw [unhide hq]; rfl, ?_⟩
          repeat' (first | (with_reducible exact Chg.refl _ _) | (with_reducible exact Ext.refl _) | (with_reducible assumption) | (with_reducible refine Chg.alloc ?_ _) | (with_reducible refine Chg.drew ?_) | (with_reducible refine Chg.drewN ?_ _) | (with_reducible refine Chg.setCell ?_ ?_ _) | (with_reducible refine Ext.alloc ?_ _) | (with_reducible refine Ext.drew ?_) | (with_reducible refine Ext.drewN ?_ _) | (with_reducible refine Ext.setCell ?_ ?_ _) | (simp; done) | (simp; omega) | omega)
        · go_enter Try.func11, Try.ntmps11
          go_wp2
          refine bodyPost_ret (v := .tuple #[.agg #[.int .i64 0, .int .i64 0, .int .i64 0, .string { data := #[] }], .agg #[.int .i64 0, .int .i64 1], .bool true]) (by simp [results, Try.results11, go_sem]) rfl ⟨by rw [unhide hq]; rfl, ?_⟩
          repeat' (first | (with_reducible exact Chg.refl _ _) | (with_reducible exact Ext.refl _) | (with_reducible assumption) | (with_reducible refine Chg.alloc ?_ _) | (with_reducible refine Chg.drew ?_) | (with_reducible refine Chg.drewN ?_ _) | (with_reducible refine Chg.setCell ?_ ?_ _) | (with_reducible refine Ext.alloc ?_ _) | (with_reducible refine Ext.drew ?_) | (with_reducible refine Ext.drewN ?_ _) | (with_reducible refine Ext.setCell ?_ ?_ _) | (simp; done) | (simp; omega) | omega)
    · by_cases h1 : bank < 0
      · go_enter Try.func11, Try.ntmps11
        go_wp2
        refine bodyPost_ret (v := .tuple #[.agg #[.int .i64 0, .int .i64 0, .int .i64 0, .string { data := #[] }], .agg #[.int .i64 0, .int .i64 1], .bool true]) (by simp [results, Try.results11, go_sem]) rfl ⟨by rw [unhide hq]; rfl, ?_⟩
        repeat' (first | (with_reducible exact Chg.refl _ _) | (with_reducible exact Ext.refl _) | (with_reducible assumption) | (with_reducible refine Chg.alloc ?_ _) | (with_reducible refine Chg.drew ?_) | (with_reducible refine Chg.drewN ?_ _) | (with_reducible refine Chg.setCell ?_ ?_ _) | (with_reducible refine Ext.alloc ?_ _) | (with_reducible refine Ext.drew ?_) | (with_reducible refine Ext.drewN ?_ _) | (with_reducible refine Ext.setCell ?_ ?_ _) | (simp; done) | (simp; omega) | omega)
      · by_cases h2 : 3 < bank
        · go_enter Try.func11, Try.ntmps11
          go_wp2
          refine bodyPost_ret (v := .tuple #[.agg #[.int .i64 0, .int .i64 0, .int .i64 0, .string { data := #[] }], .agg #[.int .i64 0, .int .i64 1], .bool true]) (by simp [results, Try.results11, go_sem]) rfl ⟨by rw [unhide hq]; rfl, ?_⟩
          repeat' (first | (with_reducible exact Chg.refl _ _) | (with_reducible exact Ext.refl _) | (with_reducible assumption) | (with_reducible refine Chg.alloc ?_ _) | (with_reducible refine Chg.drew ?_) | (with_reducible refine Chg.drewN ?_ _) | (with_reducible refine Chg.setCell ?_ ?_ _) | (with_reducible refine Ext.alloc ?_ _) | (with_reducible refine Ext.drew ?_) | (with_reducible refine Ext.drewN ?_ _) | (with_reducible refine Ext.setCell ?_ ?_ _) | (simp; done) | (simp; omega) | omega)
        · have h3 : ¬ bits < 0 := by omega
          go_enter Try.func11, Try.ntmps11
          go_wp2
          refine bodyPost_ret (v := .tuple #[.agg #[.int .i64 0, .int .i64 0, .int .i64 0, .string { data := #[] }], .agg #[.int .i64 0, .int .i64 1], .bool true]) (by simp [results, Try.results11, go_sem]) rfl ⟨by rw [unhide hq]; rfl, ?_⟩
          repeat' (first | (with_reducible exact Chg.refl _ _) | (with_reducible exact Ext.refl _) | (with_reducible assumption) | (with_reducible refine Chg.alloc ?_ _) | (with_reducible refine Chg.drew ?_) | (with_reducible refine Chg.drewN ?_ _) | (with_reducible refine Chg.setCell ?_ ?_ _) | (with_reducible refine Ext.alloc ?_ _) | (with_reducible refine Ext.drew ?_) | (with_reducible refine Ext.drewN ?_ _) | (with_reducible refine Ext.setCell ?_ ?_ _) | (simp; done) | (simp; omega) | omega)

end Go.Proofs.Ytmlekdmnpljcoaa
