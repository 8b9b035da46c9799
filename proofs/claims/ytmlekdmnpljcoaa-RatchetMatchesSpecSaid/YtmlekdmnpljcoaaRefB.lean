/-
  bootchainref11.Raise returns what the replayed step program comes to.
-/
import Derived.Test.YtmlekdmnpljcoaaRef
namespace Go.Proofs.Ytmlekdmnpljcoaa
open Go.RowKit

set_option maxRecDepth 100000 in
set_option maxHeartbeats 1000000 in
theorem ref_raise (bank bits target : Int) (lv : Value) (log : List Res) (w : World) (hl : Reads w 2 lv log.length (logCells log)) :
    Calls Try.prog 13 #[.int .i64 bank, .int .i64 bits, .int .i64 target, lv] w fun e w' => e = .returned (ranV (raiseR bank bits target log)) ∧ Ext w w' := by
  have HL := hide hl
  obtain ⟨_, B, cp, rfl, hnc, hcm, _⟩ := hl
  clear hnc hcm
  by_cases hv : (validB bank bits && (decide (0 ≤ target) && decide (target ≤ bits))) = true
  · have hb : (0 ≤ bank ∧ bank ≤ 3) ∧ (0 ≤ bits ∧ bits ≤ 16) ∧ 0 ≤ target ∧ target ≤ bits := by simp [validB] at hv; omega
    obtain ⟨⟨hb1, hb2⟩, ⟨hb3, hb4⟩, hb5, hb6⟩ := hb
    obtain ⟨nb, rfl⟩ := Int.eq_ofNat_of_zero_le hb3
    obtain ⟨nt, rfl⟩ := Int.eq_ofNat_of_zero_le hb5
    have hq : Hid (raiseR bank (nb : Int) (nt : Int) log = ((Prg.raiseTo bank nb nt).bind fun a => .ret a).run (replay log) 0) := hide (by unfold raiseR Prg.raise; rw [if_pos hv]; exact congrArg (fun p => Prg.run (replay log) p 0) (Prg.bind_ret_right _).symm)
    have hnb : nb ≤ 1000 := by omega
    have hnt : nt ≤ 1000 := by omega
    clear hv
    go_enter Try.func13, Try.ntmps13
    go_wp2_with fail
    refine (ref_raiseTo (w.heap.size + 1 + 1) (.slice B log.length cp) log bank nb nt hnb hnt st0 _ ?_).mono ?_
    · refine ⟨Blk.new' _ _ _ (by simp), (unhide HL).ext ?_, fun hn hk => ?_, Nat.zero_le _⟩
      · repeat' (first | (with_reducible exact Chg.refl _ _) | (with_reducible exact Ext.refl _) | (with_reducible assumption) | (with_reducible refine Chg.alloc ?_ _) | (with_reducible refine Chg.drew ?_) | (with_reducible refine Chg.drewN ?_ _) | (with_reducible refine Chg.setCell ?_ ?_ _) | (with_reducible refine Ext.alloc ?_ _) | (with_reducible refine Ext.drew ?_) | (with_reducible refine Ext.drewN ?_ _) | (with_reducible refine Ext.setCell ?_ ?_ _) | (simp; done) | (simp; omega) | omega)
      · have := (unhide HL).own_lt (by omega) hn _ hk
        omega
    rintro e w1 ⟨⟨⟨n, er⟩, rfl, ha⟩, h1, h2⟩
    have hE : Ext w w1 := by
      refine Chg.trans' (S := Non) (T := fun k => k = w.heap.size + 1 + 1) (b := ((w.alloc (.cells #[.int .i64 0, .int .i64 0, .int .i64 0, .string { data := #[] }] 27)).alloc (.cells #[.int .i64 0, .int .i64 0] 30)).alloc (.cells (curCells (.slice B log.length cp) st0) 68)) ?_ h2 (fun _ _ h => h) (fun i hi e => by omega)
      repeat' (first | (with_reducible exact Chg.refl _ _) | (with_reducible exact Ext.refl _) | (with_reducible assumption) | (with_reducible refine Chg.alloc ?_ _) | (with_reducible refine Chg.drew ?_) | (with_reducible refine Chg.drewN ?_ _) | (with_reducible refine Chg.setCell ?_ ?_ _) | (with_reducible refine Ext.alloc ?_ _) | (with_reducible refine Ext.drew ?_) | (with_reducible refine Ext.drewN ?_ _) | (with_reducible refine Ext.setCell ?_ ?_ _) | (simp; done) | (simp; omega) | omega)
    have hA := (((Blk.new w 27 #[.int .i64 0, .int .i64 0, .int .i64 0, .string { data := #[] }]).alloc (.cells #[.int .i64 0, .int .i64 0] 30)).alloc (.cells (curCells (.slice B log.length cp) st0) 68)).chg h2 (by omega)
    have hO := ((Blk.new' (w.alloc (.cells #[.int .i64 0, .int .i64 0, .int .i64 0, .string { data := #[] }] 27)) 30 #[.int .i64 0, .int .i64 0] (g := w.heap.size + 1) (by simp)).alloc (.cells (curCells (.slice B log.length cp) st0) 68)).chg h2 (by omega)
    have HT := hide (told_eq log (Prg.raiseTo bank nb nt) (fun a => a) (n, er) ha)
    have HC := hide (And.intro h1 (And.intro hE (And.intro hA hO)))
    clear hA hO hE h1 h2 ha
    generalize (curRun log (Prg.raiseTo bank nb nt) st0).2 = s1 at *
    simp only [pairV]
    go_wp2_with fail
    refine (ref_told (w.heap.size + 1 + 1) (.slice B log.length cp) log (n : Int) er s1 _ (unhide HC).1).mono ?_
    rintro e w2 ⟨rfl, hE2⟩
    obtain ⟨a0, a1, a2, a3, fA, lA⟩ := ((unhide HC).2.2.1.ext hE2).cells4
    obtain ⟨o0, o1, fO, lO⟩ := ((unhide HC).2.2.2.ext hE2).cells2
    have HX := hide ((unhide HC).2.1.trans hE2)
    clear hE2 HC
    obtain ⟨ak, ab, ac, ax, p1, p2, d, hv⟩ := toldV_parts s1 (n : Int) er
    have HV := hide hv
    rw [hv]
    clear hv
    go_wp2
    refine bodyPost_ret (v := .tuple #[.agg #[.int .i64 ak, .int .i64 ab, .int .i64 ac, .string ax], .agg #[.int .i64 p1, .int .i64 p2], .bool d]) (by simp [results, Try.results13, go_sem, a0, a1, a2, a3, o0, o1]) rfl ⟨by rw [unhide hq, ← unhide HV]; exact congrArg _ (unhide HT), ?_⟩
    have hx := unhide HX
    repeat' (first | (with_reducible exact Chg.refl _ _) | (with_reducible exact Ext.refl _) | (with_reducible assumption) | (with_reducible refine Chg.alloc ?_ _) | (with_reducible refine Chg.drew ?_) | (with_reducible refine Chg.drewN ?_ _) | (with_reducible refine Chg.setCell ?_ ?_ _) | (with_reducible refine Ext.alloc ?_ _) | (with_reducible refine Ext.drew ?_) | (with_reducible refine Ext.drewN ?_ _) | (with_reducible refine Ext.setCell ?_ ?_ _) | (simp; done) | (simp; omega) | omega)
  · have hq : Hid (raiseR bank bits target log = .ok (0, 1) 0) := hide (by unfold raiseR Prg.raise; rw [if_neg hv]; rfl)
    have hb : bank < 0 ∨ 3 < bank ∨ bits < 0 ∨ 16 < bits ∨ target < 0 ∨ bits < target := by simp [validB] at hv; omega
    clear hv
    by_cases h1 : bank < 0
    · go_enter Try.func13, Try.ntmps13
      go_wp2
      refine bodyPost_ret (v := .tuple #[.agg #[.int .i64 0, .int .i64 0, .int .i64 0, .string { data := #[] }], .agg #[.int .i64 0, .int .i64 1], .bool true]) (by simp [results, Try.results13, go_sem]) rfl ⟨by rw [unhide hq]; rfl, ?_⟩
      repeat' (first | (with_reducible exact Chg.refl _ _) | (with_reducible exact Ext.refl _) | (with_reducible assumption) | (with_reducible refine Chg.alloc ?_ _) | (with_reducible refine Chg.drew ?_) | (with_reducible refine Chg.drewN ?_ _) | (with_reducible refine Chg.setCell ?_ ?_ _) | (with_reducible refine Ext.alloc ?_ _) | (with_reducible refine Ext.drew ?_) | (with_reducible refine Ext.drewN ?_ _) | (with_reducible refine Ext.setCell ?_ ?_ _) | (simp; done) | (simp; omega) | omega)
    · by_cases h2 : 3 < bank
      · go_enter Try.func13, Try.ntmps13
        go_wp2
        refine bodyPost_ret (v := .tuple #[.agg #[.int .i64 0, .int .i64 0, .int .i64 0, .string { data := #[] }], .agg #[.int .i64 0, .int .i64 1], .bool true]) (by simp [results, Try.results13, go_sem]) rfl ⟨by rw [unhide hq]; rfl, ?_⟩
        repeat' (first | (with_reducible exact Chg.refl _ _) | (with_reducible exact Ext.refl _) | (with_reducible assumption) | (with_reducible refine Chg.alloc ?_ _) | (with_reducible refine Chg.drew ?_) | (with_reducible refine Chg.drewN ?_ _) | (with_reducible refine Chg.setCell ?_ ?_ _) | (with_reducible refine Ext.alloc ?_ _) | (with_reducible refine Ext.drew ?_) | (with_reducible refine Ext.drewN ?_ _) | (with_reducible refine Ext.setCell ?_ ?_ _) | (simp; done) | (simp; omega) | omega)
      · by_cases h3 : bits < 0
        · go_enter Try.func13, Try.ntmps13
          go_wp2
          refine bodyPost_ret (v := .tuple #[.agg #[.int .i64 0, .int .i64 0, .int .i64 0, .string { data := #[] }], .agg #[.int .i64 0, .int .i64 1], .bool true]) (by simp [results, Try.results13, go_sem]) rfl ⟨by rw [unhide hq]; rfl, ?_⟩
          repeat' (first | (with_reducible exact Chg.refl _ _) | (with_reducible exact Ext.refl _) | (with_reducible assumption) | (with_reducible refine Chg.alloc ?_ _) | (with_reducible refine Chg.drew ?_) | (with_reducible refine Chg.drewN ?_ _) | (with_reducible refine Chg.setCell ?_ ?_ _) | (with_reducible refine Ext.alloc ?_ _) | (with_reducible refine Ext.drew ?_) | (with_reducible refine Ext.drewN ?_ _) | (with_reducible refine Ext.setCell ?_ ?_ _) | (simp; done) | (simp; omega) | omega)
        · by_cases h4 : 16 < bits
          · go_enter Try.func13, Try.ntmps13
            go_wp2
            refine bodyPost_ret (v := .tuple #[.agg #[.int .i64 0, .int .i64 0, .int .i64 0, .string { data := #[] }], .agg #[.int .i64 0, .int .i64 1], .bool true]) (by simp [results, Try.results13, go_sem]) rfl ⟨by rw [unhide hq]; rfl, ?_⟩
            repeat' (first | (with_reducible exact Chg.refl _ _) | (with_reducible exact Ext.refl _) | (with_reducible assumption) | (with_reducible refine Chg.alloc ?_ _) | (with_reducible refine Chg.drew ?_) | (with_reducible refine Chg.drewN ?_ _) | (with_reducible refine Chg.setCell ?_ ?_ _) | (with_reducible refine Ext.alloc ?_ _) | (with_reducible refine Ext.drew ?_) | (with_reducible refine Ext.drewN ?_ _) | (with_reducible refine Ext.setCell ?_ ?_ _) | (simp; done) | (simp; omega) | omega)
          · by_cases h5 : target < 0
            · go_enter Try.func13, Try.ntmps13
              go_wp2
              refine bodyPost_ret (v := .tuple #[.agg #[.int .i64 0, .int .i64 0, .int .i64 0, .string { data := #[] }], .agg #[.int .i64 0, .int .i64 1], .bool true]) (by simp [results, Try.results13, go_sem]) rfl ⟨by rw [unhide hq]; rfl, ?_⟩
              repeat' (first | (with_reducible exact Chg.refl _ _) | (with_reducible exact Ext.refl _) | (with_reducible assumption) | (with_reducible refine Chg.alloc ?_ _) | (with_reducible refine Chg.drew ?_) | (with_reducible refine Chg.drewN ?_ _) | (with_reducible refine Chg.setCell ?_ ?_ _) | (with_reducible refine Ext.alloc ?_ _) | (with_reducible refine Ext.drew ?_) | (with_reducible refine Ext.drewN ?_ _) | (with_reducible refine Ext.setCell ?_ ?_ _) | (simp; done) | (simp; omega) | omega)
            · have h6 : bits < target := by omega
              go_enter Try.func13, Try.ntmps13
              go_wp2
              refine bodyPost_ret (v := .tuple #[.agg #[.int .i64 0, .int .i64 0, .int .i64 0, .string { data := #[] }], .agg #[.int .i64 0, .int .i64 1], .bool true]) (by simp [results, Try.results13, go_sem]) rfl ⟨by rw [unhide hq]; rfl, ?_⟩
              repeat' (first | (with_reducible exact Chg.refl _ _) | (with_reducible exact Ext.refl _) | (with_reducible assumption) | (with_reducible refine Chg.alloc ?_ _) | (with_reducible refine Chg.drew ?_) | (with_reducible refine Chg.drewN ?_ _) | (with_reducible refine Chg.setCell ?_ ?_ _) | (with_reducible refine Ext.alloc ?_ _) | (with_reducible refine Ext.drew ?_) | (with_reducible refine Ext.drewN ?_ _) | (with_reducible refine Ext.setCell ?_ ?_ _) | (simp; done) | (simp; omega) | omega)

end Go.Proofs.Ytmlekdmnpljcoaa
