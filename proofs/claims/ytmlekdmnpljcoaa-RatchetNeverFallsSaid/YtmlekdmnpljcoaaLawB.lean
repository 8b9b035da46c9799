/-
  The law RatchetNeverFalls, walked.
-/
import Derived.Test.YtmlekdmnpljcoaaLawC
import Derived.Deep.DeepCutAuto
import Derived.Deep.CutRange
namespace Go.Proofs.Ytmlekdmnpljcoaa
open Go.RowKit

/-- A session as the law's argument has it. -/
structure Ses where
  raise : Bool
  target : Int
  fv : Value
  faults : List Int
def Ses.cells (s : Ses) : List Value := [.bool s.raise, .int .u8 s.target, s.fv]
def sesCells (l : List Ses) : List Value := l.flatMap Ses.cells
theorem sesCells_get (l : List Ses) : ∀ i, (sesCells l)[i * 3]? = (l[i]?).map (fun r => Value.bool r.raise) ∧ (sesCells l)[i * 3 + 1]? = (l[i]?).map (fun r => Value.int .u8 r.target) ∧ (sesCells l)[i * 3 + 2]? = (l[i]?).map (fun r => r.fv) := by
  unfold sesCells
  induction l with
  | nil => intro i; simp
  | cons r l ih =>
    intro i
    cases i with
    | zero => simp [Ses.cells]
    | succ i =>
      have := ih i
      rw [List.flatMap_cons]
      simp only [Ses.cells, List.getElem?_cons_succ]
      rw [show (i + 1) * 3 = i * 3 + 1 + 1 + 1 from by omega]
      simpa using this
theorem Reads.at3 {w : World} {n : Nat} {v : Value} {xs : List Value} {k : Nat} (h : Reads w 3 v n xs) (hk : k < n) : ∃ b o c u0 u1 u2, v = .slice (some ⟨b, o, none⟩) n c ∧ b < w.heap.size ∧ xs[k * 3]? = some u0 ∧ xs[k * 3 + 1]? = some u1 ∧ xs[k * 3 + 2]? = some u2 ∧
    w.cell? ⟨b, o + k * 3, none⟩ = some u0 ∧ w.cell? ⟨b, o + k * 3 + 1, none⟩ = some u1 ∧ w.cell? ⟨b, o + k * 3 + 2, none⟩ = some u2 := by
  obtain ⟨h1, A, c, rfl, h2, h3, h4⟩ := h
  obtain ⟨b, o, rfl, hc⟩ := h4 (by omega)
  have e0 := hc (k * 3) _ (List.getElem?_eq_getElem (by omega))
  have e1 := hc (k * 3 + 1) _ (List.getElem?_eq_getElem (by omega))
  have e2 := hc (k * 3 + 2) _ (List.getElem?_eq_getElem (by omega))
  rw [← Nat.add_assoc] at e1 e2
  exact ⟨b, o, c, _, _, _, rfl, lt_of_cell e0, List.getElem?_eq_getElem (by omega), List.getElem?_eq_getElem (by omega), List.getElem?_eq_getElem (by omega), e0, e1, e2⟩
/-- What is known of a session: its faults. -/
def Ses.Ok (w : World) (s : Ses) : Prop := isU8 s.target ∧ Reads w 1 s.fv s.faults.length (s.faults.map (Value.int .u8)) ∧ ∀ x ∈ s.faults, isU8 x

theorem Ses.Ok.ext {w w' : World} {s : Ses} (h : s.Ok w) (he : Ext w w') : s.Ok w' := ⟨h.1, h.2.1.ext he, h.2.2⟩
theorem falls_facts (F : List Int) (raise : Bool) (c0 : List Int) (t : Int) (bits : Nat) (hb : bits ≤ 16) (hl : c0.length = 3 * bits) (hv : Val c0) (hs : ∀ b, b < bits → stuckC c0 b ≤ 1) :
    (execR raise t F bits c0).bad = false ∧ ((execR raise t F bits c0).cells.length = 3 * bits ∧ Val (execR raise t F bits c0).cells ∧ (∀ b, b < bits → stuckC (execR raise t F bits c0).cells b ≤ 1) ∧ levelOfCells c0 false ≤ levelOfCells (execR raise t F bits c0).cells false) ∧
    ((execR raise t F bits c0).done = true → (execR raise t F bits c0).out.2 = 0 ∧ levelOfCells c0 false ≤ (execR raise t F bits c0).out.1 ∧ (raise = true → tgt t bits ≤ (execR raise t F bits c0).out.1) ∧ (execR raise t F bits c0).out.1 ≤ levelOfCells (execR raise t F bits c0).cells false ∧ (execR raise t F bits c0).out.1 ≤ bits) := by
  have hevo : ∀ c, Evo c0 c → c.length = 3 * bits ∧ Val c ∧ (∀ b, b < bits → stuckC c b ≤ 1) ∧ levelOfCells c0 false ≤ levelOfCells c false := fun c e => by
    refine ⟨by rw [e.len]; exact hl, hv.evo e, fun b hb' => by rw [e.stuck]; exact hs b hb', ?_⟩
    rw [level_bits c0 false bits hl, level_bits c false bits (by rw [e.len]; exact hl)]
    obtain ⟨_, h2, h3, _⟩ := levelUp_spec c0 false bits 0
    exact le_levelUp c false _ bits 0 (fun b _ hb' => e.low (h3 b (Nat.zero_le _) hb')) (by omega)
  obtain ⟨h0, ⟨h1, h⟩ | ⟨h1, h⟩⟩ := execR_cases F raise t bits c0 hb hl hv
  · refine ⟨h0, hevo _ h.evo, fun _ => ?_⟩
    rcases h.ok with ⟨e1, e2, e3, e4, e5⟩ | ⟨_, _, e2, e3⟩
    · exact ⟨e1, e2, e3, e5, e4⟩
    · have := hs _ e2
      omega
  · exact ⟨h0, hevo _ h.evo, fun hd => by rw [h1] at hd; cases hd⟩

set_option maxHeartbeats 1000000 in
theorem few_any (l : List Ses) (lv : Value) (w : World) (hl : Reads w 3 lv l.length (sesCells l)) (ho : ∀ s ∈ l, s.Ok w) :
    Calls Try.prog 14 #[lv] w fun e w' => e = .returned (.bool (decide (l.length ≤ 8) && l.all fun s => decide (s.faults.length ≤ 200))) ∧ Ext w w' := by
  have hm := hl.len_le
  unfold maxLen at hm
  have HL := hide hl
  obtain ⟨_, B, c, rfl, _, _, hcs⟩ := hl
  by_cases h8 : 8 < l.length
  · have h1 : (8 : Int) < (l.length : Int) := by omega
    have HX := hide (show (decide (l.length ≤ 8) && l.all fun s => decide (s.faults.length ≤ 200)) = false from by simp; omega)
    clear hcs
    go_enter Try.func14, Try.ntmps14
    go_wp2
    go_ret
    exact ⟨ret_bool (by rw [unhide HX]), Ext.refl _⟩
  · have h1 : ¬ (8 : Int) < (l.length : Int) := by omega
    have HX := hide (show (decide (l.length ≤ 8) && l.all fun s => decide (s.faults.length ≤ 200)) = l.all fun s => decide (s.faults.length ≤ 200) from by rw [decide_eq_true (by omega)]; rfl)
    have HC := hide hcs
    clear hcs
    go_enter Try.func14, Try.ntmps14
    go_wp2
    go_loop [3] (fun i => ∃ k : Nat, k ≤ l.length ∧ i = .int .i64 k ∧ ∀ j (h : j < l.length), j < k → l[j].faults.length ≤ 200) (fun i => l.length - (intOf i).toNat)
    case atStart => exact ⟨0, Nat.zero_le _, rfl, fun j _ h => absurd h (by omega)⟩
    case round =>
      obtain ⟨k, hk, rfl, hA⟩ := hrel
      have HA := hide hA
      clear hA
      by_cases hlt : k < l.length
      · obtain ⟨b1, o1, c1, u0, u1, u2, hv, hb1, g0, g1, g2, k0, k1, k2⟩ := (unhide HL).at3 hlt
        cases hv
        rw [(sesCells_get l k).2.2, List.getElem?_eq_getElem hlt] at g2
        cases g2
        obtain ⟨_, B3, d3, hfv, _⟩ := (ho _ (List.getElem_mem hlt)).2.1
        dsimp only at k2
        rw [hfv] at k2
        have hlen := (ho _ (List.getElem_mem hlt)).2.1.len_le
        unfold maxLen at hlen
        have HH := hide (Iff.rfl : l[k].faults.length ≤ 200 ↔ l[k].faults.length ≤ 200)
        generalize hq : l[k].faults.length = q at *
        have HQ := hide hq
        clear hq hfv k0 k1 g0 g1 HH
        by_cases hq2 : 200 < q
        · have hq3 : (200 : Int) < (q : Int) := by omega
          go_wp2
          go_ret
          refine ⟨ret_bool ?_, Ext.refl _⟩
          rw [unhide HX]
          symm
          rw [List.all_eq_false]
          exact ⟨l[k], List.getElem_mem hlt, by have := unhide HQ; simp; omega⟩
        · have hq3 : ¬ (200 : Int) < (q : Int) := by omega
          go_wp2
          go_round
          case rel => exact ⟨k + 1, by omega, by go_num, fun j hj hjk => by
            by_cases e : j = k
            · subst e; have := unhide HQ; omega
            · exact unhide HA j hj (by omega)⟩
          case measure => simp [intOf]; omega
      · obtain rfl : k = l.length := by omega
        go_wp2
        go_ret
        refine ⟨ret_bool ?_, Ext.refl _⟩
        rw [unhide HX]
        symm
        rw [List.all_eq_true]
        intro s hs
        obtain ⟨j, hj, rfl⟩ := List.getElem_of_mem hs
        have := unhide HA j hj hj
        simp
        exact this

/-- Six stores into a block of the call's own. -/
theorem run_sets {w : World} {g : Nat} {a b c d e f : Value} (h : Blk w g 44 #[.slice none 0 0, .int .i64 0, .int .i64 0, .bool false, .int .i64 0, .bool false]) :
    Blk ((((((w.setCell ⟨g, 0, none⟩ a).setCell ⟨g, 1, none⟩ b).setCell ⟨g, 2, none⟩ c).setCell ⟨g, 3, none⟩ d).setCell ⟨g, 4, none⟩ e).setCell ⟨g, 5, none⟩ f) g 44 #[a, b, c, d, e, f] :=
  (((((h.set_ 0 a).set_ 1 b).set_ 2 c).set_ 3 d).set_ 4 e).set_ 5 f
theorem run_chg (w : World) (g : Nat) {a b c d e f : Value} :
    Chg (fun k => k = g) w ((((((w.setCell ⟨g, 0, none⟩ a).setCell ⟨g, 1, none⟩ b).setCell ⟨g, 2, none⟩ c).setCell ⟨g, 3, none⟩ d).setCell ⟨g, 4, none⟩ e).setCell ⟨g, 5, none⟩ f) :=
  Chg.setCell (S := fun k => k = g) (p := ⟨g, 5, none⟩) (Chg.setCell (p := ⟨g, 4, none⟩) (Chg.setCell (p := ⟨g, 3, none⟩) (Chg.setCell (p := ⟨g, 2, none⟩) (Chg.setCell (p := ⟨g, 1, none⟩) (Chg.setCell (p := ⟨g, 0, none⟩) (Chg.refl (fun k => k = g) w) (.inl rfl) _) (.inl rfl) _) (.inl rfl) _) (.inl rfl) _) (.inl rfl) _) (.inl rfl) _
theorem run_ext {w0 w : World} (h : Ext w0 w) {a b c d e f : Value} :
    Ext w0 ((((((w.setCell ⟨w0.heap.size, 0, none⟩ a).setCell ⟨w0.heap.size, 1, none⟩ b).setCell ⟨w0.heap.size, 2, none⟩ c).setCell ⟨w0.heap.size, 3, none⟩ d).setCell ⟨w0.heap.size, 4, none⟩ e).setCell ⟨w0.heap.size, 5, none⟩ f) :=
  h.trans' (run_chg w w0.heap.size) (fun _ _ h => h) (fun i hi e => by omega)
/-- execute, whose fuses are either the ones that it was given or new. -/
theorem exec_gen_at (raise : Bool) (target : Int) (fl : Value) (faults : List Int) (fv : Value) (cells : List Int) (bits : Nat) (w : World) (hf : FusesIn w fv [cells]) (hfl : Reads w 1 fl faults.length (faults.map (Value.int .u8))) (h8 : ∀ x ∈ faults, isU8 x)
    (ht : isU8 target) (hb : bits ≤ 16) (hc : cells.length = 3 * bits) :
    Calls Try.prog 16 #[.agg #[fv], .agg #[.bool raise, .int .u8 target, fl], .int .i64 bits] w fun e w' =>
      ∃ A c, e = .returned (.agg #[.slice A 1 c, .int .i64 ((execR raise target faults bits cells).out.1 : Int), .int .i64 (execR raise target faults bits cells).out.2, .bool (execR raise target faults bits cells).done, .int .i64 ((execR raise target faults bits cells).many : Int), .bool (execR raise target faults bits cells).bad]) ∧
        FusesAt (fun v b => v = fv ∧ b = [cells]) (w.heap.size + 4) w' (.slice A 1 c) [(execR raise target faults bits cells).cells] ∧ Ext w w' := by
  refine (execute_at raise target fl faults fv cells bits (fun v b => v = fv ∧ b = [cells]) w ⟨rfl, rfl⟩ (fun v b h => by rw [h.1, h.2]; exact hf) hfl h8 ht hb hc).mono ?_
  rintro e w' ⟨fv', he, hF, hE⟩
  obtain ⟨_, ⟨_, A, c, rfl, _⟩, _⟩ := (hF.fuses (fun v b h => by rw [h.1, h.2]; exact hf.ext hE)).ex
  exact ⟨A, c, he, hF, hE⟩
theorem fuses_conv {P : Value → List (List Int) → Prop} {B B2 : Nat} {w w' w'' : World} {fv fv' : Value} {b b' : List (List Int)} {S : Nat → Prop} (h : FusesAt P B w fv b) (k : FusesAt (fun v c => v = fv ∧ c = b) B2 w' fv' b') (he : Ext w w'') (hc : Chg S w' w'') (hS : ∀ j, B2 ≤ j → ¬ S j) (hB : B ≤ B2) : FusesAt P B w'' fv' b' :=
  k.elim (fun ⟨e1, e2⟩ => by rw [e1, e2]; exact h.chg (S := Non) he (fun _ _ h => h)) (fun h => .inr ((h.chg hc hS).lower hB))

set_option maxRecDepth 100000 in
set_option maxHeartbeats 4000000 in
theorem falls_any (l : List Int) (lv : Value) (L : List Ses) (sv : Value) (w : World) (hl : Reads w 1 lv l.length (l.map (Value.int .u8))) (h8 : ∀ x ∈ l, isU8 x) (hS : Reads w 3 sv L.length (sesCells L)) (ho : ∀ s ∈ L, s.Ok w) :
    Calls Try.prog 4 #[lv, sv] w fun e w' => e = .returned (.bool true) ∧ Ext w w' := by
  have HL := hide hl
  have hm := hl.len_le
  have HS := hide hS
  have hmS := hS.len_le
  unfold maxLen at hm hmS
  obtain ⟨_, B, c, rfl, _, _, _⟩ := hl
  obtain ⟨_, BS, cS, rfl, _, _, _⟩ := hS
  have H8 := hide h8
  have HO := hide ho
  clear h8 ho
  by_cases hlen : 48 < l.length
  · have h1 : (48 : Int) < (l.length : Int) := by omega
    go_enter Try.func4, Try.ntmps4
    go_wp2_with fail
    refine (sanity_any _).mono ?_
    rintro e w1 ⟨rfl, hE⟩
    have H1 := hide hE
    clear hE
    go_wp2
    go_ret
    exact ⟨rfl, unhide H1⟩
  have h1 : decide ((48 : Int) < (l.length : Int)) = false := by simp; omega
  have hfew := fun w hw => few_any L (.slice BS L.length cS) w hw
  generalize (decide (L.length ≤ 8) && L.all fun s => decide (s.faults.length ≤ 200)) = fw at hfew
  have HFW := hide hfew
  clear hfew
  cases fw with
  | false =>
    go_enter Try.func4, Try.ntmps4
    go_wp2_with fail
    refine (sanity_any _).mono ?_
    rintro e w1 ⟨rfl, hE⟩
    have H1 := hide hE
    clear hE
    go_wp2_with fail
    refine (unhide HFW _ ((unhide HS).ext (unhide H1)) (fun s hs => (unhide HO s hs).ext (unhide H1))).mono ?_
    rintro e w2 ⟨rfl, hE⟩
    have H2 := hide ((unhide H1).trans hE)
    clear hE
    go_wp2
    go_ret
    exact ⟨rfl, unhide H2⟩
  | true =>
    have HC := hide (And.intro (cellsOf_length l true) (And.intro (cellsOf_val l true) (fun b hb => cellsOf_sound l b hb)))
    have hn := bitsOf_le l
    go_enter Try.func4, Try.ntmps4
    go_wp2_with fail
    refine (sanity_any _).mono ?_
    rintro e w1 ⟨rfl, hE⟩
    have H1 := hide hE
    clear hE
    go_wp2_with fail
    refine (unhide HFW _ ((unhide HS).ext (unhide H1)) (fun s hs => (unhide HO s hs).ext (unhide H1))).mono ?_
    rintro e w2 ⟨rfl, hE⟩
    have H2 := hide ((unhide H1).trans hE)
    clear hE H1 HFW
    go_wp2_with fail
    refine (cells_any l _ true _ ((unhide HL).ext (unhide H2)) (unhide H8)).mono ?_
    rintro e w3 ⟨fv, rfl, hFu, hE⟩
    have hFu := hFu.fuses
    obtain ⟨_, ⟨_, A2, c2, rfl, _⟩, _⟩ := hFu.ex
    have H3 := hide (And.intro hFu ((unhide H2).trans hE))
    clear hFu hE H2
    generalize bitsOf l = n at *
    generalize cellsOf l true = c0 at *
    go_wp2
    go_loopw [8, 9] (fun b i wr => ∃ (k best : Nat) (cs : List Int) (A : Option Addr) (c : Nat), k ≤ L.length ∧ i = .int .i64 k ∧ b = .int .i64 best ∧ best ≤ 16 ∧ Hid (FusesAt (FusesIn w3) (w3.heap.size + 1) wr (.slice A 1 c) [cs] ∧ Blk wr w3.heap.size 40 #[.slice A 1 c] ∧ cs.length = 3 * n ∧ Val cs ∧ (∀ b, b < n → stuckC cs b ≤ 1) ∧ best ≤ levelOfCells cs false ∧ Ext w3 wr)) (fun _ i _ => L.length - (intOf i).toNat)
    case atStart => exact ⟨0, 0, c0, A2, c2, Nat.zero_le _, rfl, rfl, by omega, hide ⟨.inl (unhide H3).1, Blk.new _ _ _, (unhide HC).1, (unhide HC).2.1, (unhide HC).2.2, Nat.zero_le _, (Ext.refl _).alloc _⟩⟩
    case round =>
      obtain ⟨k, best, cs, A, cc, hk, rfl, rfl, hb16, HR⟩ := hrel
      have HW := hide ((unhide H3).2.trans (unhide HR).2.2.2.2.2.2)
      have hfi := (unhide HR).1.fuses (fun _ _ h => h.ext (unhide HR).2.2.2.2.2.2)
      have HFI := hide hfi
      clear hfi
      by_cases hlt : k < L.length
      · obtain ⟨b1, o1, c1, u0, u1, u2, hv, hb1, g0, g1, g2, k0, k1, k2⟩ := (unhide HS).at3 hlt
        cases hv
        have hbs : b1 < w3.heap.size := Nat.lt_of_lt_of_le hb1 (unhide H3).2.size'
        replace k0 := Ext.cellv (unhide HW) k0
        replace k1 := Ext.cellv (unhide HW) k1
        replace k2 := Ext.cellv (unhide HW) k2
        replace hb1 : b1 < wr.heap.size := Nat.lt_of_lt_of_le hb1 (unhide HW).size'
        rw [(sesCells_get L k).1, List.getElem?_eq_getElem hlt] at g0
        rw [(sesCells_get L k).2.1, List.getElem?_eq_getElem hlt] at g1
        rw [(sesCells_get L k).2.2, List.getElem?_eq_getElem hlt] at g2
        cases g0
        cases g1
        cases g2
        have hok := (unhide HO _ (List.getElem_mem hlt))
        generalize L[k] = s at *
        obtain ⟨sr, st, sv, sf⟩ := s
        obtain ⟨ht, hsv, hsf⟩ := hok
        simp only at ht hsv hsf k0 k1 k2
        have HX := hide (And.intro ht (And.intro hsv hsf))
        obtain ⟨_, B3, d3, rfl, _⟩ := hsv
        obtain ⟨ht0, ht1⟩ := ht
        have hG := fun (w' : World) (h : Ext wr w') => exec_gen_at sr st (.slice B3 sf.length d3) sf (.slice A 1 cc) cs n w' ((unhide HFI).ext h) ((unhide HX).2.1.ext ((unhide HW).trans h)) hsf (unhide HX).1 hn (unhide HR).2.2.1
        have hF := falls_facts sf sr cs st n hn (unhide HR).2.2.1 (unhide HR).2.2.2.1 (unhide HR).2.2.2.2.1
        generalize execR sr st sf n cs = R at hF hG
        obtain ⟨Rc, ⟨R1, R2⟩, Rd, Rm, Rb⟩ := R
        obtain ⟨hb, hE0, hD⟩ := hF
        dsimp only at hb hE0 hD hG
        subst hb
        have HG := hide hG
        have HE := hide hE0
        have HD := hide hD
        clear hsf hG hE0 hD
        obtain ⟨y0, yf, yl⟩ := (unhide HR).2.1.cells1
        have hk' : (k : Int) < (L.length : Int) := by omega
        go_upto_region 9 with fail
        go_cut [10] (fun s10 wx => ∃ (g : Nat) (A5 : Option Addr) (c5 : Nat), s10 = .pointer (some ⟨g, 0, none⟩) ∧ Hid (Blk wx g 44 #[.slice A5 1 c5, .int .i64 (R1 : Int), .int .i64 R2, .bool Rd, .int .i64 (Rm : Int), .bool false] ∧ FusesAt (FusesIn w3) (w3.heap.size + 1) wx (.slice A5 1 c5) [Rc] ∧ Ext wr wx ∧ wr.heap.size ≤ g))
        case first =>
          go_region_with (first
            | (go_at_call 16
               refine (unhide HG _ ?hc).mono ?_
               case hc =>
                 repeat' (first | (with_reducible exact Chg.refl _ _) | (with_reducible exact Ext.refl _) | (with_reducible assumption) | (with_reducible refine Chg.alloc ?_ _) | (with_reducible refine Chg.drew ?_) | (with_reducible refine Chg.drewN ?_ _) | (with_reducible refine Chg.setCell ?_ ?_ _) | (with_reducible refine Ext.alloc ?_ _) | (with_reducible refine Ext.drew ?_) | (with_reducible refine Ext.drewN ?_ _) | (with_reducible refine Ext.setCell ?_ ?_ _) | (simp; done) | (simp; omega) | omega)
               rintro e w5 ⟨A5, c5, rfl, hFu, hE⟩
               have HH := hide (And.intro hFu hE)
               obtain ⟨hr1, hr2⟩ := hE.rules
               have hz := hE.size'
               clear hFu hE))
          all_goals (go_wp2_with fail; go_meet)
          all_goals
            obtain ⟨hFu, hE⟩ := unhide HH
          all_goals
            have hX : Ext wr w5 := by
              refine Ext.trans ?_ hE
              repeat' (first | (with_reducible exact Chg.refl _ _) | (with_reducible exact Ext.refl _) | (with_reducible assumption) | (with_reducible refine Chg.alloc ?_ _) | (with_reducible refine Chg.drew ?_) | (with_reducible refine Chg.drewN ?_ _) | (with_reducible refine Chg.setCell ?_ ?_ _) | (with_reducible refine Ext.alloc ?_ _) | (with_reducible refine Ext.drew ?_) | (with_reducible refine Ext.drewN ?_ _) | (with_reducible refine Ext.setCell ?_ ?_ _) | (simp; done) | (simp; omega) | omega)
          all_goals first
            | ((with_reducible refine ⟨_, A5, c5, rfl, hide ⟨Blk.new _ _ _, ?_, ?_, ?_⟩⟩)
               · exact fuses_conv (S := Non) (unhide HR).1 hFu (hX.alloc _) ((Ext.refl w5).alloc _) (fun _ _ h => h) (by have := (unhide HR).2.2.2.2.2.2.size'; simp only [World.size_alloc, World.size_drew]; omega)
               · exact hX.alloc _
               · exact hX.size')
            | ((with_reducible refine ⟨_, A5, c5, rfl, hide ⟨run_sets ?_, ?_, ?_, Nat.le_refl _⟩⟩)
               · first | exact ((Blk.new wr _ _).drew).ext hE | exact (Blk.new wr _ _).ext hE
               · exact fuses_conv (unhide HR).1 hFu (run_ext hX) (run_chg _ _) (fun j hj e => by simp only [World.size_alloc, World.size_drew] at hj; omega) (by have := (unhide HR).2.2.2.2.2.2.size'; simp only [World.size_alloc, World.size_drew]; omega)
               · exact run_ext hX)
        case rest =>
          obtain ⟨g, A5, c5, rfl, HC5⟩ := hcut
          obtain ⟨⟨z0, z1, z2, z3, z4, z5⟩, zf, zl⟩ := (unhide HC5).1.cells6
          obtain ⟨y0, yf, yl⟩ := ((unhide HR).2.1.ext (unhide HC5).2.2.1).cells1
          have k0' := Ext.cellv (unhide HC5).2.2.1 k0
          have k1' := Ext.cellv (unhide HC5).2.2.1 k1
          have hne : ¬ w3.heap.size = g := by have := (unhide HR).2.1.lt; have := (unhide HC5).2.2.2; omega
          have hne2 : ¬ g = w3.heap.size := fun h => hne h.symm
          have hE7 : Hid (Ext w3 (wc.setCell ⟨w3.heap.size, 0, none⟩ (.slice A5 1 c5))) := hide (Chg.setCell (p := ⟨w3.heap.size, 0, none⟩) ((unhide HR).2.2.2.2.2.2.trans (unhide HC5).2.2.1) (.inr (Nat.le_refl _)) _)
          have hF7 : Hid (FusesAt (FusesIn w3) (w3.heap.size + 1) (wc.setCell ⟨w3.heap.size, 0, none⟩ (.slice A5 1 c5)) (.slice A5 1 c5) [Rc]) := hide ((unhide HC5).2.1.chg (Chg.setCell (S := fun k => k = w3.heap.size) (p := ⟨w3.heap.size, 0, none⟩) (Chg.refl _ wc) (.inl rfl) _) (fun j hj e => by omega))
          have hB7 : Hid (Blk (wc.setCell ⟨w3.heap.size, 0, none⟩ (.slice A5 1 c5)) w3.heap.size 40 #[.slice A5 1 c5]) := hide (((unhide HR).2.1.ext (unhide HC5).2.2.1).set_ 0 _)
          cases Rd with
          | false =>
            go_wp2_with fail
            refine (least_any _ [Rc] 0 _ (((unhide hF7).chg (S := Non) (Ext.refl _) (fun _ _ h => h)).fuses (fun _ _ h => h.ext ((unhide hE7).trans (Ext.refl _)))) (by simp) (by show Rc.length ≤ 100000; have := (unhide HE).1; omega)).mono ?_
            rintro e w8 ⟨rfl, hE8⟩
            have HX8 := hide (Ext.trans (Ext.refl _) hE8)
            clear hE8
            have hlv : (best : Nat) ≤ levelOfCells [Rc][0] false := Nat.le_trans (unhide HR).2.2.2.2.2.1 (unhide HE).2.2.2
            have hlv' : ¬ ((levelOfCells [Rc][0] false : Nat) : Int) < ((best : Nat) : Int) := by omega
            have HLV := hide hlv
            clear hlv
            generalize hlq : levelOfCells [Rc][0] false = lq at *
            have HLQ := hide hlq
            clear hlq
            go_wp2
            go_roundw
            case rel => exact ⟨k + 1, best, Rc, A5, c5, Nat.succ_le_of_lt hlt, by go_num, rfl, by omega, hide ⟨(unhide hF7).chg (S := Non) (unhide HX8) (fun _ _ h => h), (unhide hB7).ext (unhide HX8), (unhide HE).1, (unhide HE).2.1, (unhide HE).2.2.1, by have := unhide HLV; rw [← unhide HLQ] at this; exact this, (unhide hE7).trans (unhide HX8)⟩⟩
            case measure => simp [intOf]; omega
          | true =>
            obtain ⟨hd1, hd2, hd3, hd4, hd5⟩ := unhide HD rfl
            subst hd1
            have hbest := (unhide HR).2.2.2.2.2.1
            have c1' : ¬ (R1 : Int) < (best : Int) := by omega
            have c1n : decide (R1 < best) = false := by simp; omega
            have e1 : IntKind.i64.wrap ((n : Int) + 1) = (n : Int) + 1 := IntWalk.i64_in _ (by omega)
            have e2 : IntKind.i64.wrap st = st := IntWalk.i64_in _ (by omega)
            have e3 : (0 : Int) ≤ (n : Int) + 1 := by omega
            obtain ⟨ht5, ht6⟩ := tgt_le st n
            have HD4 := hide hd4
            cases sr with
            | false =>
              clear ht5 ht6
              go_wp2
              go_quiet (fail)
              go_wp2_with fail
              refine (least_any _ [Rc] 0 _ (((unhide hF7).chg (S := Non) ((Ext.refl _).drewN _) (fun _ _ h => h)).fuses (fun _ _ h => h.ext ((unhide hE7).trans ((Ext.refl _).drewN _)))) (by simp) (by show Rc.length ≤ 100000; have := (unhide HE).1; omega)).mono ?_
              rintro e w8 ⟨rfl, hE8⟩
              have HX8 := hide (Ext.trans ((Ext.refl _).drewN _) hE8)
              clear hE8
              have hlv : (R1 : Nat) ≤ levelOfCells [Rc][0] false := unhide HD4
              have hlv' : ¬ ((levelOfCells [Rc][0] false : Nat) : Int) < ((R1 : Nat) : Int) := by omega
              have HLV := hide hlv
              clear hlv
              generalize hlq : levelOfCells [Rc][0] false = lq at *
              have HLQ := hide hlq
              clear hlq
              go_wp2
              go_roundw
              case rel => exact ⟨k + 1, R1, Rc, A5, c5, Nat.succ_le_of_lt hlt, by go_num, rfl, by omega, hide ⟨(unhide hF7).chg (S := Non) (unhide HX8) (fun _ _ h => h), (unhide hB7).ext (unhide HX8), (unhide HE).1, (unhide HE).2.1, (unhide HE).2.2.1, by have := unhide HLV; rw [← unhide HLQ] at this; exact this, (unhide hE7).trans (unhide HX8)⟩⟩
              case measure => simp [intOf]; omega
            | true =>
              have hd3' := hd3 rfl
              generalize tgt st n = g2 at *
              have e4 : ¬ (R1 : Int) < (g2 : Int) := by omega
              have e4n : decide (R1 < g2) = false := by simp; omega
              go_wp2
              go_quiet (fail)
              go_wp2_with fail
              refine (least_any _ [Rc] 0 _ (((unhide hF7).chg (S := Non) ((Ext.refl _).drewN _) (fun _ _ h => h)).fuses (fun _ _ h => h.ext ((unhide hE7).trans ((Ext.refl _).drewN _)))) (by simp) (by show Rc.length ≤ 100000; have := (unhide HE).1; omega)).mono ?_
              rintro e w8 ⟨rfl, hE8⟩
              have HX8 := hide (Ext.trans ((Ext.refl _).drewN _) hE8)
              clear hE8
              have hlv : (R1 : Nat) ≤ levelOfCells [Rc][0] false := unhide HD4
              have hlv' : ¬ ((levelOfCells [Rc][0] false : Nat) : Int) < ((R1 : Nat) : Int) := by omega
              have HLV := hide hlv
              clear hlv
              generalize hlq : levelOfCells [Rc][0] false = lq at *
              have HLQ := hide hlq
              clear hlq
              go_wp2
              go_roundw
              case rel => exact ⟨k + 1, R1, Rc, A5, c5, Nat.succ_le_of_lt hlt, by go_num, rfl, by omega, hide ⟨(unhide hF7).chg (S := Non) (unhide HX8) (fun _ _ h => h), (unhide hB7).ext (unhide HX8), (unhide HE).1, (unhide HE).2.1, (unhide HE).2.2.1, by have := unhide HLV; rw [← unhide HLQ] at this; exact this, (unhide hE7).trans (unhide HX8)⟩⟩
              case measure => simp [intOf]; omega
      · obtain rfl : k = L.length := by omega
        go_wp2
        go_ret
        exact ⟨rfl, unhide HW⟩

end Go.Proofs.Ytmlekdmnpljcoaa
