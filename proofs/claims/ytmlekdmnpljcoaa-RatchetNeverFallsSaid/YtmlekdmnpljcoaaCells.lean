/-
  bootchainref11.Cells: fuses with one bank.
-/
import Derived.Test.YtmlekdmnpljcoaaNext
namespace Go.Proofs.Ytmlekdmnpljcoaa
open Go.RowKit

/-- Of the first k cells of bit b, how many are stuck. -/
def stuckN (l : List Int) (b : Nat) : Nat → Nat
  | 0 => 0
  | k + 1 => stuckN l b k + (if l.getD (3 * b + k) 0 % 4 = 3 then 1 else 0)
def cellOf (l : List Int) (sound : Bool) (j : Nat) : Int := if sound = true ∧ 1 < stuckN l (j / 3) 3 then 0 else l.getD j 0 % 4
def bitsOf (l : List Int) : Nat := min (l.length / 3) 16
def cellsOf (l : List Int) (sound : Bool) : List Int := (List.range (3 * bitsOf l)).map (cellOf l sound)
theorem stuckN_le (l : List Int) (b k : Nat) : stuckN l b k ≤ k := by
  induction k with
  | zero => exact Nat.le_refl _
  | succ k ih => unfold stuckN; split <;> omega
theorem cells_step (l : List Int) (sound : Bool) (j : Nat) : (List.range (j + 1)).map (cellOf l sound) = (List.range j).map (cellOf l sound) ++ [cellOf l sound j] := by
  rw [List.range_succ, List.map_append]; rfl

theorem bits_at {l : List Int} {b k : Nat} (hb : b < bitsOf l) (hk : k < 3) : 3 * b + k < l.length := by unfold bitsOf at hb; omega

theorem own_one (w : World) (B : Nat) (e : TypeId) (u : Value) (hb : B ≤ w.heap.size) : (w.alloc (.cells #[u] e)).ownsRow B e 1 (.slice (some ⟨w.heap.size, 0, none⟩) 1 1) 1 [u] :=
  ⟨by simp, .inr ⟨w.heap.size, 1, #[u], rfl, hb, heap_alloc_new w _, Nat.le_refl _, by unfold maxLen; omega, by simp, by simp⟩⟩
theorem fuses_one {wr : World} {v V : Value} {n r B : Nat} {l : List Int} (hn : l.length = n) (h : wr.ownsRow B 5 1 v n (l.map (Value.int .u8))) (_hr : r < wr.heap.size) (hrB : r < B) (hB : B ≤ wr.heap.size) :
    FusesNew B ((wr.setCell ⟨r, 0, none⟩ V).alloc (.cells #[v] 35)) (.slice (some ⟨wr.heap.size, 0, none⟩) 1 1) [l] := by
  have hc : Chg (fun k => k = r) wr (wr.setCell ⟨r, 0, none⟩ V) := Chg.setCell (S := fun j => j = r) (p := ⟨r, 0, none⟩) (Chg.refl _ _) (.inl rfl) _
  have h' := ownsRow_chg h hc (fun k hk e => by have := (h.lt k hk).1; omega)
  have hz : (wr.setCell ⟨r, 0, none⟩ V).heap.size = wr.heap.size := by simp [World.setCell]
  refine ⟨B, [v], Nat.le_refl _, by have := own_one (wr.setCell ⟨r, 0, none⟩ V) B 35 v (by omega); rw [hz] at this; exact this, ?_⟩
  refine ⟨rfl, fun k bv x h1 h2 => ?_, fun i j bi bj g h1 h2 hij => ?_⟩
  · cases k with
    | zero =>
      cases h1
      cases h2
      rw [hn]
      exact ownsRow_ext h' (Chg.alloc (Ext.refl _) _)
    | succ k => cases h1
  · have : i = 0 := by
      cases i with
      | zero => rfl
      | succ i => cases h1
    have : j = 0 := by
      cases j with
      | zero => rfl
      | succ j => cases h2
    omega

theorem FusesNew.lower {B B' : Nat} {w : World} {fv : Value} {banks : List (List Int)} (h : FusesNew B w fv banks) (hb : B' ≤ B) : FusesNew B' w fv banks := by
  obtain ⟨C, bvs, h1, h2⟩ := h
  exact ⟨C, bvs, by omega, h2⟩

set_option maxHeartbeats 2000000 in
theorem cells_any (l : List Int) (lv : Value) (sound : Bool) (w : World) (hl : Reads w 1 lv l.length (l.map (Value.int .u8))) (h8 : ∀ x ∈ l, isU8 x) :
    Calls Try.prog 15 #[lv, .bool sound] w fun e w' =>
      ∃ fv, e = .returned (.tuple #[.agg #[fv], .int .i64 (bitsOf l)]) ∧ FusesNew w.heap.size w' fv [cellsOf l sound] ∧ Ext w w' := by
  have hm := hl.len_le
  unfold maxLen at hm
  have HL := hide hl
  obtain ⟨_, B, c, rfl, _, _, _⟩ := hl
  have hbits : (bitsOf l : Int) = if (l.length : Int) / 3 > 16 then 16 else (l.length : Int) / 3 := by unfold bitsOf; split <;> omega
  have hb16 : bitsOf l ≤ 16 := by unfold bitsOf; omega
  by_cases hb : (l.length : Int) / 3 > 16
  · rw [if_pos hb] at hbits
    have hx : decide ((16 : Int) < (l.length : Int) / 3) = true := by simpa using hb
    go_enter Try.func15, Try.ntmps15
    go_wp2
    go_loopw [7, 8] (fun s i wr => ∃ b : Nat, b ≤ bitsOf l ∧ i = .int .i64 b ∧ wr.ownsRow (w.heap.size + 1) 5 1 s (3 * b) (((List.range (3 * b)).map (cellOf l sound)).map (Value.int .u8)) ∧ Ext (w.alloc (.cells #[.slice none 0 0] 40)) wr) (fun _ i _ => 16 - (intOf i).toNat)
    case atStart => exact ⟨0, Nat.zero_le _, rfl, World.ownsRow_nil _ _ _ _, Ext.refl _⟩
    case round =>
      obtain ⟨b, hb, rfl, hown, hE⟩ := hrel
      have HO := hide (And.intro hown hE)
      clear hown hE
      by_cases hlt : b < bitsOf l
      · have hlt2 : (b : Int) < 16 := by omega
        go_wp2
        go_loop [9, 10] (fun n i => ∃ k : Nat, k ≤ 3 ∧ i = .int .i64 k ∧ n = .int .i64 (stuckN l b k)) (fun _ i => 3 - (intOf i).toNat)
        case atStart => exact ⟨0, by omega, rfl, rfl⟩
        case round =>
          obtain ⟨k, hk, rfl, rfl⟩ := hrel
          by_cases hk3 : k < 3
          · have hj := bits_at hlt hk3
            obtain ⟨b1, o, c', u, hv, _, _, hbw, hu, hc1⟩ := ((unhide HL).ext ((Chg.alloc (Ext.refl w) _ : Ext w (w.alloc (.cells #[.slice none 0 0] 40))).trans (unhide HO).2)).at1 hj
            cases hv
            rw [List.getElem?_map, List.getElem?_eq_getElem hj] at hu
            cases hu
            have hg := h8 _ (List.getElem_mem hj)
            obtain ⟨hg0, hg1⟩ := hg
            have HS := hide (show stuckN l b (k + 1) = stuckN l b k + (if l[3 * b + k] % 4 = 3 then 1 else 0) by rw [stuckN, List.getD_eq_getElem?_getD, List.getElem?_eq_getElem hj]; rfl)
            have hle := stuckN_le l b k
            have hj0 : (0 : Int) ≤ 3 * (b : Int) + (k : Int) := by omega
            have hj1 : 3 * (b : Int) + (k : Int) < (l.length : Int) := by omega
            have hj2 : (3 * (b : Int) + (k : Int)).toNat = 3 * b + k := by omega
            have hi64 : IntKind.i64.wrap (3 * (b : Int)) = 3 * (b : Int) := IntWalk.i64_in _ (by omega)
            have hi65 : IntKind.i64.wrap (3 * (b : Int) + (k : Int)) = 3 * (b : Int) + (k : Int) := IntWalk.i64_in _ (by omega)
            generalize stuckN l b k = n0 at *
            generalize l[3 * b + k] = x at *
            by_cases hx : x % 4 = 3
            · have hx' : (x % 4 == 3) = true := by simp [hx]
              have HX := hide hx
              clear hx
              go_wp2
              go_round
              case rel => exact ⟨k + 1, by omega, by go_num, int_eq (by rw [unhide HS, if_pos (unhide HX)]; rfl)⟩
              case measure => simp [intOf]; omega
            · have hx' : (x % 4 == 3) = false := by simp [hx]
              have HX := hide hx
              clear hx
              go_wp2
              go_round
              case rel => exact ⟨k + 1, by omega, by go_num, int_eq (by rw [unhide HS, if_neg (unhide HX)]; rfl)⟩
              case measure => simp [intOf]; omega
          · obtain rfl : k = 3 := by omega
            go_wp2
            go_loopw [7, 11] (fun s i wq => ∃ k : Nat, k ≤ 3 ∧ i = .int .i64 k ∧ wq.ownsRow (w.heap.size + 1) 5 1 s (3 * b + k) (((List.range (3 * b + k)).map (cellOf l sound)).map (Value.int .u8)) ∧ Ext (w.alloc (.cells #[.slice none 0 0] 40)) wq) (fun _ i _ => 3 - (intOf i).toNat)
            case atStart => exact ⟨0, by omega, rfl, (unhide HO).1, (unhide HO).2⟩
            case round =>
              obtain ⟨k, hk, rfl, hown, hE⟩ := hrel
              have HP := hide (And.intro hown hE)
              clear hown hE
              by_cases hk3 : k < 3
              · have hj := bits_at hlt hk3
                obtain ⟨b1, o, c', u, hv, _, _, hbw, hu, hc1⟩ := ((unhide HL).ext ((Chg.alloc (Ext.refl w) _ : Ext w (w.alloc (.cells #[.slice none 0 0] 40))).trans (unhide HP).2)).at1 hj
                cases hv
                rw [List.getElem?_map, List.getElem?_eq_getElem hj] at hu
                cases hu
                have hg := h8 _ (List.getElem_mem hj)
                obtain ⟨hg0, hg1⟩ := hg
                have HS := hide (show cellOf l sound (3 * b + k) = if sound = true ∧ 1 < stuckN l b 3 then 0 else l[3 * b + k] % 4 by unfold cellOf; rw [show (3 * b + k) / 3 = b from by omega, List.getD_eq_getElem?_getD, List.getElem?_eq_getElem hj]; rfl)
                have hle := stuckN_le l b 3
                have hj0 : (0 : Int) ≤ 3 * (b : Int) + (k : Int) := by omega
                have hj1 : 3 * (b : Int) + (k : Int) < (l.length : Int) := by omega
                have hj2 : (3 * (b : Int) + (k : Int)).toNat = 3 * b + k := by omega
                have hi64 : IntKind.i64.wrap (3 * (b : Int)) = 3 * (b : Int) := IntWalk.i64_in _ (by omega)
                have hi65 : IntKind.i64.wrap (3 * (b : Int) + (k : Int)) = 3 * (b : Int) + (k : Int) := IntWalk.i64_in _ (by omega)
                have hsz : Hid (w.heap.size + 1 ≤ wr.heap.size) := hide (by have := (unhide HP).2.size'; simpa using this)
                generalize stuckN l b 3 = n0 at *
                generalize l[3 * b + k] = x at *
                cases sound with
                | false =>
                  have HV : Hid (cellOf l false (3 * b + k) = x % 4) := hide (by rw [unhide HS, if_neg (by simp)])
                  go_wp2_with (at_builtin; refine wpList_app rfl rfl u8_row rfl (ownsRow_ext (unhide HP).1 ((Ext.refl _).alloc _)) rfl (Reads.new1 _ _ _) (AllOne.one rfl) (by omega) (Nat.le_trans (unhide hsz) (by simp)) ?_; intro A' c' w2 ho hc hv)
                  have HQ := hide (And.intro ho (((unhide HP).2.alloc _).trans' hc (fun _ _ h => h) (fun i hi hi' => absurd ((unhide HP).1.lt i hi').1 (by simp only [World.size_alloc] at hi; omega))))
                  clear ho hc hv
                  go_wp2
                  go_roundw
                  case rel => exact ⟨k + 1, by omega, by go_num, by rw [show 3 * b + (k + 1) = 3 * b + k + 1 from rfl, cells_step, List.map_append, unhide HV]; exact (unhide HQ).1, (unhide HQ).2⟩
                  case measure => simp [intOf]; omega
                | true =>
                  by_cases hn1 : 1 < n0
                  · have HV : Hid (cellOf l true (3 * b + k) = 0) := hide (by rw [unhide HS, if_pos ⟨rfl, hn1⟩])
                    have hn2 : (1 : Int) < (n0 : Int) := by omega
                    go_wp2_with (at_builtin; refine wpList_app rfl rfl u8_row rfl (ownsRow_ext (unhide HP).1 ((Ext.refl _).alloc _)) rfl (Reads.new1 _ _ _) (AllOne.one rfl) (by omega) (Nat.le_trans (unhide hsz) (by simp)) ?_; intro A' c' w2 ho hc hv)
                    have HQ := hide (And.intro ho (((unhide HP).2.alloc _).trans' hc (fun _ _ h => h) (fun i hi hi' => absurd ((unhide HP).1.lt i hi').1 (by simp only [World.size_alloc] at hi; omega))))
                    clear ho hc hv
                    go_wp2
                    go_roundw
                    case rel => exact ⟨k + 1, by omega, by go_num, by rw [show 3 * b + (k + 1) = 3 * b + k + 1 from rfl, cells_step, List.map_append, unhide HV]; exact (unhide HQ).1, (unhide HQ).2⟩
                    case measure => simp [intOf]; omega
                  · have HV : Hid (cellOf l true (3 * b + k) = x % 4) := hide (by rw [unhide HS, if_neg (fun h => hn1 h.2)])
                    have hn2 : ¬ (1 : Int) < (n0 : Int) := by omega
                    go_wp2_with (at_builtin; refine wpList_app rfl rfl u8_row rfl (ownsRow_ext (unhide HP).1 ((Ext.refl _).alloc _)) rfl (Reads.new1 _ _ _) (AllOne.one rfl) (by omega) (Nat.le_trans (unhide hsz) (by simp)) ?_; intro A' c' w2 ho hc hv)
                    have HQ := hide (And.intro ho (((unhide HP).2.alloc _).trans' hc (fun _ _ h => h) (fun i hi hi' => absurd ((unhide HP).1.lt i hi').1 (by simp only [World.size_alloc] at hi; omega))))
                    clear ho hc hv
                    go_wp2
                    go_roundw
                    case rel => exact ⟨k + 1, by omega, by go_num, by rw [show 3 * b + (k + 1) = 3 * b + k + 1 from rfl, cells_step, List.map_append, unhide HV]; exact (unhide HQ).1, (unhide HQ).2⟩
                    case measure => simp [intOf]; omega
              · obtain rfl : k = 3 := by omega
                go_wp2
                go_roundw
                case rel => exact ⟨b + 1, by omega, by go_num, (unhide HP).1, (unhide HP).2⟩
                case measure => simp [intOf]; omega
      · obtain rfl : b = bitsOf l := by omega
        have hlt2 : ¬ ((bitsOf l : Nat) : Int) < 16 := by omega
        have HB := hide hbits
        clear hbits
        have hF := (Blk.new w 40 #[.slice none 0 0]).ext (unhide HO).2
        obtain ⟨f0, ff, fl⟩ := hF.cells1
        obtain ⟨A1, c1, rfl⟩ := own_slice (unhide HO).1
        go_wp2
        refine bodyPost_ret (v := .tuple #[.agg #[.slice (some ⟨wr.heap.size, 0, none⟩) 1 1], .int .i64 (16)]) (by simp [results, Try.results15, go_sem, f0, fl]) rfl ⟨_, by rw [unhide HB], FusesNew.lower (fuses_one (l := cellsOf l sound) (by simp [cellsOf]) (unhide HO).1 fl (Nat.lt_succ_self _) (by simpa using (unhide HO).2.size')) (Nat.le_succ _), ?_⟩
        have hE := Ext.trans (Chg.alloc (Ext.refl w) _ : Ext w (w.alloc (.cells #[.slice none 0 0] 40))) (unhide HO).2
        repeat' (first | (with_reducible exact Chg.refl _ _) | (with_reducible exact Ext.refl _) | (with_reducible assumption) | (with_reducible refine Chg.alloc ?_ _) | (with_reducible refine Chg.drew ?_) | (with_reducible refine Chg.drewN ?_ _) | (with_reducible refine Chg.setCell ?_ ?_ _) | (with_reducible refine Ext.alloc ?_ _) | (with_reducible refine Ext.drew ?_) | (with_reducible refine Ext.drewN ?_ _) | (with_reducible refine Ext.setCell ?_ ?_ _) | (simp; done) | (simp; omega) | omega)
  · rw [if_neg hb] at hbits
    have hx : decide ((16 : Int) < (l.length : Int) / 3) = false := by simpa using hb
    go_enter Try.func15, Try.ntmps15
    go_wp2
    go_loopw [7, 8] (fun s i wr => ∃ b : Nat, b ≤ bitsOf l ∧ i = .int .i64 b ∧ wr.ownsRow (w.heap.size + 1) 5 1 s (3 * b) (((List.range (3 * b)).map (cellOf l sound)).map (Value.int .u8)) ∧ Ext (w.alloc (.cells #[.slice none 0 0] 40)) wr) (fun _ i _ => 16 - (intOf i).toNat)
    case atStart => exact ⟨0, Nat.zero_le _, rfl, World.ownsRow_nil _ _ _ _, Ext.refl _⟩
    case round =>
      obtain ⟨b, hb, rfl, hown, hE⟩ := hrel
      have HO := hide (And.intro hown hE)
      clear hown hE
      by_cases hlt : b < bitsOf l
      · have hlt2 : (b : Int) < ((l.length:Int)/3) := by omega
        go_wp2
        go_loop [9, 10] (fun n i => ∃ k : Nat, k ≤ 3 ∧ i = .int .i64 k ∧ n = .int .i64 (stuckN l b k)) (fun _ i => 3 - (intOf i).toNat)
        case atStart => exact ⟨0, by omega, rfl, rfl⟩
        case round =>
          obtain ⟨k, hk, rfl, rfl⟩ := hrel
          by_cases hk3 : k < 3
          · have hj := bits_at hlt hk3
            obtain ⟨b1, o, c', u, hv, _, _, hbw, hu, hc1⟩ := ((unhide HL).ext ((Chg.alloc (Ext.refl w) _ : Ext w (w.alloc (.cells #[.slice none 0 0] 40))).trans (unhide HO).2)).at1 hj
            cases hv
            rw [List.getElem?_map, List.getElem?_eq_getElem hj] at hu
            cases hu
            have hg := h8 _ (List.getElem_mem hj)
            obtain ⟨hg0, hg1⟩ := hg
            have HS := hide (show stuckN l b (k + 1) = stuckN l b k + (if l[3 * b + k] % 4 = 3 then 1 else 0) by rw [stuckN, List.getD_eq_getElem?_getD, List.getElem?_eq_getElem hj]; rfl)
            have hle := stuckN_le l b k
            have hj0 : (0 : Int) ≤ 3 * (b : Int) + (k : Int) := by omega
            have hj1 : 3 * (b : Int) + (k : Int) < (l.length : Int) := by omega
            have hj2 : (3 * (b : Int) + (k : Int)).toNat = 3 * b + k := by omega
            have hi64 : IntKind.i64.wrap (3 * (b : Int)) = 3 * (b : Int) := IntWalk.i64_in _ (by omega)
            have hi65 : IntKind.i64.wrap (3 * (b : Int) + (k : Int)) = 3 * (b : Int) + (k : Int) := IntWalk.i64_in _ (by omega)
            generalize stuckN l b k = n0 at *
            generalize l[3 * b + k] = x at *
            by_cases hx : x % 4 = 3
            · have hx' : (x % 4 == 3) = true := by simp [hx]
              have HX := hide hx
              clear hx
              go_wp2
              go_round
              case rel => exact ⟨k + 1, by omega, by go_num, int_eq (by rw [unhide HS, if_pos (unhide HX)]; rfl)⟩
              case measure => simp [intOf]; omega
            · have hx' : (x % 4 == 3) = false := by simp [hx]
              have HX := hide hx
              clear hx
              go_wp2
              go_round
              case rel => exact ⟨k + 1, by omega, by go_num, int_eq (by rw [unhide HS, if_neg (unhide HX)]; rfl)⟩
              case measure => simp [intOf]; omega
          · obtain rfl : k = 3 := by omega
            go_wp2
            go_loopw [7, 11] (fun s i wq => ∃ k : Nat, k ≤ 3 ∧ i = .int .i64 k ∧ wq.ownsRow (w.heap.size + 1) 5 1 s (3 * b + k) (((List.range (3 * b + k)).map (cellOf l sound)).map (Value.int .u8)) ∧ Ext (w.alloc (.cells #[.slice none 0 0] 40)) wq) (fun _ i _ => 3 - (intOf i).toNat)
            case atStart => exact ⟨0, by omega, rfl, (unhide HO).1, (unhide HO).2⟩
            case round =>
              obtain ⟨k, hk, rfl, hown, hE⟩ := hrel
              have HP := hide (And.intro hown hE)
              clear hown hE
              by_cases hk3 : k < 3
              · have hj := bits_at hlt hk3
                obtain ⟨b1, o, c', u, hv, _, _, hbw, hu, hc1⟩ := ((unhide HL).ext ((Chg.alloc (Ext.refl w) _ : Ext w (w.alloc (.cells #[.slice none 0 0] 40))).trans (unhide HP).2)).at1 hj
                cases hv
                rw [List.getElem?_map, List.getElem?_eq_getElem hj] at hu
                cases hu
                have hg := h8 _ (List.getElem_mem hj)
                obtain ⟨hg0, hg1⟩ := hg
                have HS := hide (show cellOf l sound (3 * b + k) = if sound = true ∧ 1 < stuckN l b 3 then 0 else l[3 * b + k] % 4 by unfold cellOf; rw [show (3 * b + k) / 3 = b from by omega, List.getD_eq_getElem?_getD, List.getElem?_eq_getElem hj]; rfl)
                have hle := stuckN_le l b 3
                have hj0 : (0 : Int) ≤ 3 * (b : Int) + (k : Int) := by omega
                have hj1 : 3 * (b : Int) + (k : Int) < (l.length : Int) := by omega
                have hj2 : (3 * (b : Int) + (k : Int)).toNat = 3 * b + k := by omega
                have hi64 : IntKind.i64.wrap (3 * (b : Int)) = 3 * (b : Int) := IntWalk.i64_in _ (by omega)
                have hi65 : IntKind.i64.wrap (3 * (b : Int) + (k : Int)) = 3 * (b : Int) + (k : Int) := IntWalk.i64_in _ (by omega)
                have hsz : Hid (w.heap.size + 1 ≤ wr.heap.size) := hide (by have := (unhide HP).2.size'; simpa using this)
                generalize stuckN l b 3 = n0 at *
                generalize l[3 * b + k] = x at *
                cases sound with
                | false =>
                  have HV : Hid (cellOf l false (3 * b + k) = x % 4) := hide (by rw [unhide HS, if_neg (by simp)])
                  go_wp2_with (at_builtin; refine wpList_app rfl rfl u8_row rfl (ownsRow_ext (unhide HP).1 ((Ext.refl _).alloc _)) rfl (Reads.new1 _ _ _) (AllOne.one rfl) (by omega) (Nat.le_trans (unhide hsz) (by simp)) ?_; intro A' c' w2 ho hc hv)
                  have HQ := hide (And.intro ho (((unhide HP).2.alloc _).trans' hc (fun _ _ h => h) (fun i hi hi' => absurd ((unhide HP).1.lt i hi').1 (by simp only [World.size_alloc] at hi; omega))))
                  clear ho hc hv
                  go_wp2
                  go_roundw
                  case rel => exact ⟨k + 1, by omega, by go_num, by rw [show 3 * b + (k + 1) = 3 * b + k + 1 from rfl, cells_step, List.map_append, unhide HV]; exact (unhide HQ).1, (unhide HQ).2⟩
                  case measure => simp [intOf]; omega
                | true =>
                  by_cases hn1 : 1 < n0
                  · have HV : Hid (cellOf l true (3 * b + k) = 0) := hide (by rw [unhide HS, if_pos ⟨rfl, hn1⟩])
                    have hn2 : (1 : Int) < (n0 : Int) := by omega
                    go_wp2_with (at_builtin; refine wpList_app rfl rfl u8_row rfl (ownsRow_ext (unhide HP).1 ((Ext.refl _).alloc _)) rfl (Reads.new1 _ _ _) (AllOne.one rfl) (by omega) (Nat.le_trans (unhide hsz) (by simp)) ?_; intro A' c' w2 ho hc hv)
                    have HQ := hide (And.intro ho (((unhide HP).2.alloc _).trans' hc (fun _ _ h => h) (fun i hi hi' => absurd ((unhide HP).1.lt i hi').1 (by simp only [World.size_alloc] at hi; omega))))
                    clear ho hc hv
                    go_wp2
                    go_roundw
                    case rel => exact ⟨k + 1, by omega, by go_num, by rw [show 3 * b + (k + 1) = 3 * b + k + 1 from rfl, cells_step, List.map_append, unhide HV]; exact (unhide HQ).1, (unhide HQ).2⟩
                    case measure => simp [intOf]; omega
                  · have HV : Hid (cellOf l true (3 * b + k) = x % 4) := hide (by rw [unhide HS, if_neg (fun h => hn1 h.2)])
                    have hn2 : ¬ (1 : Int) < (n0 : Int) := by omega
                    go_wp2_with (at_builtin; refine wpList_app rfl rfl u8_row rfl (ownsRow_ext (unhide HP).1 ((Ext.refl _).alloc _)) rfl (Reads.new1 _ _ _) (AllOne.one rfl) (by omega) (Nat.le_trans (unhide hsz) (by simp)) ?_; intro A' c' w2 ho hc hv)
                    have HQ := hide (And.intro ho (((unhide HP).2.alloc _).trans' hc (fun _ _ h => h) (fun i hi hi' => absurd ((unhide HP).1.lt i hi').1 (by simp only [World.size_alloc] at hi; omega))))
                    clear ho hc hv
                    go_wp2
                    go_roundw
                    case rel => exact ⟨k + 1, by omega, by go_num, by rw [show 3 * b + (k + 1) = 3 * b + k + 1 from rfl, cells_step, List.map_append, unhide HV]; exact (unhide HQ).1, (unhide HQ).2⟩
                    case measure => simp [intOf]; omega
              · obtain rfl : k = 3 := by omega
                go_wp2
                go_roundw
                case rel => exact ⟨b + 1, by omega, by go_num, (unhide HP).1, (unhide HP).2⟩
                case measure => simp [intOf]; omega
      · obtain rfl : b = bitsOf l := by omega
        have hlt2 : ¬ ((bitsOf l : Nat) : Int) < ((l.length:Int)/3) := by omega
        have HB := hide hbits
        clear hbits
        have hF := (Blk.new w 40 #[.slice none 0 0]).ext (unhide HO).2
        obtain ⟨f0, ff, fl⟩ := hF.cells1
        obtain ⟨A1, c1, rfl⟩ := own_slice (unhide HO).1
        go_wp2
        refine bodyPost_ret (v := .tuple #[.agg #[.slice (some ⟨wr.heap.size, 0, none⟩) 1 1], .int .i64 (((l.length:Int)/3))]) (by simp [results, Try.results15, go_sem, f0, fl]) rfl ⟨_, by rw [unhide HB], FusesNew.lower (fuses_one (l := cellsOf l sound) (by simp [cellsOf]) (unhide HO).1 fl (Nat.lt_succ_self _) (by simpa using (unhide HO).2.size')) (Nat.le_succ _), ?_⟩
        have hE := Ext.trans (Chg.alloc (Ext.refl w) _ : Ext w (w.alloc (.cells #[.slice none 0 0] 40))) (unhide HO).2
        repeat' (first | (with_reducible exact Chg.refl _ _) | (with_reducible exact Ext.refl _) | (with_reducible assumption) | (with_reducible refine Chg.alloc ?_ _) | (with_reducible refine Chg.drew ?_) | (with_reducible refine Chg.drewN ?_ _) | (with_reducible refine Chg.setCell ?_ ?_ _) | (with_reducible refine Ext.alloc ?_ _) | (with_reducible refine Ext.drew ?_) | (with_reducible refine Ext.drewN ?_ _) | (with_reducible refine Ext.setCell ?_ ?_ _) | (simp; done) | (simp; omega) | omega)

end Go.Proofs.Ytmlekdmnpljcoaa
