/- ScalarOrder's walk. -/
import Derived.Test.YtachmmicdjmjkaaScW
namespace Go.Proofs.Ytachmmicdjmjkaa
open Go.RowKit

theorem lit_cells (w : World) (c : List Value) (t : TypeId) (j : Nat) (v : Value) (h : c[j]? = some v) : (w.alloc (.cells c.toArray t)).cell? ⟨w.heap.size, j, none⟩ = some v := new_cell w _ t (by simpa using h)
/-- Of the eight cells the first k have their numbers. -/
def LTo (w : World) (g k : Nat) (vs : List Int) : Prop := ∀ j, j < 8 → ∃ u, w.cell? ⟨g, j, none⟩ = some (.int .i64 u) ∧ w.frozen? ⟨g, j, none⟩ = false ∧ (j < k → vs[j]? = some u)
theorem LTo.fr {w w' : World} {g k : Nat} {vs : List Int} (h : LTo w g k vs) (hC : Chg (fun _ => False) w w') : LTo w' g k vs := fun j hj => by
  obtain ⟨u, h1, h2, h3⟩ := h j hj
  exact ⟨u, hC.cell h1 id, hC.frozen h1 h2 id, h3⟩
theorem LTo.set {w : World} {g k : Nat} {vs : List Int} (h : LTo w g k vs) (hk : k < 8) (v : Int) (hv : vs[k]? = some v) : LTo (w.setCell ⟨g, k, none⟩ (.int .i64 v)) g (k + 1) vs := fun j hj => by
  obtain ⟨u, h1, h2, h3⟩ := h j hj
  by_cases hjk : j = k
  · subst hjk
    exact ⟨v, World.cell?_setCell_same' _ _ _ (by rw [h1]; rfl), by rw [World.frozen?_setCell]; exact h2, fun _ => hv⟩
  · exact ⟨u, by rw [World.cell?_setCell_other _ _ _ _ (by first | (simp; done) | (simp; omega))]; exact h1, by rw [World.frozen?_setCell]; exact h2, fun h => h3 (by omega)⟩
theorem LTo.get {w : World} {g : Nat} {vs : List Int} (h : LTo w g 8 vs) (j : Nat) (hj : j < 8) (v : Int) (hv : vs[j]? = some v) : w.cell? ⟨g, j, none⟩ = some (.int .i64 v) := by
  obtain ⟨u, h1, _, h3⟩ := h j hj
  rw [h3 hj] at hv
  rw [h1, Option.some.inj hv]
def fns : List Int := [11, 9, 14, 12, 10, 13, 6, 7]

set_option maxRecDepth 100000 in
set_option maxHeartbeats 4000000 in
theorem order_lt (x y : Int) (vs : List Int) (W : World) (hvs : vs = [1, 0, 0, 1, 1, 0, x, y]) (b1 : decide (x < y) = true) (b2 : (x == y) = false) (b3 : decide (x ≤ y) = true)
    (h : ∀ (j : Nat) (f v : Int) (w : World), fns[j]? = some f → vs[j]? = some v → Calls Try.prog 12 #[.int .i64 f, .int .i64 x, .int .i64 y] w (GaveP w v 0)) : Calls Try.prog 4 #[.int .i64 x, .int .i64 y] W (True_ W) := by
  have ha := alive_any
  have HV := Lib.hid hvs
  clear hvs
  go_enter Try.func4, Try.ntmps4
  go_wp2_with fail
  refine (ha _).mono ?_
  rintro e w1 ⟨rfl, hC1⟩
  go_wp2
  go_loopw [15] (fun i wr => ∃ k : Nat, k ≤ 8 ∧ i = .int .i64 k ∧ LTo wr w1.heap.size k vs ∧ (∀ (j : Nat) (f : Int), fns[j]? = some f → wr.cell? ⟨w1.heap.size + 1, j, none⟩ = some (.int .i64 f)) ∧ Chg (fun _ => False) W wr)
    (fun i _ => 8 - (intOf i).toNat)
  case atStart =>
    refine ⟨0, Nat.zero_le _, rfl, fun j hj => ?_, fun j f hf => ?_, (hC1.alloc _).alloc _⟩
    · have hz : (w1.alloc (.cells #[.int .i64 0, .int .i64 0, .int .i64 0, .int .i64 0, .int .i64 0, .int .i64 0, .int .i64 0, .int .i64 0, .int .i64 0, .int .i64 0] 27)).cell? ⟨w1.heap.size, j, none⟩ = some (.int .i64 0) := by
        apply lit_cells w1 [.int .i64 0, .int .i64 0, .int .i64 0, .int .i64 0, .int .i64 0, .int .i64 0, .int .i64 0, .int .i64 0, .int .i64 0, .int .i64 0]
        match j, hj with
        | 0, _ => rfl
        | 1, _ => rfl
        | 2, _ => rfl
        | 3, _ => rfl
        | 4, _ => rfl
        | 5, _ => rfl
        | 6, _ => rfl
        | 7, _ => rfl
      exact ⟨0, alloc_cell hz _, alloc_frozen hz (new_frozen _ _ _ _) _, fun h => by omega⟩
    · have hc := lit_cells (w1.alloc (.cells #[.int .i64 0, .int .i64 0, .int .i64 0, .int .i64 0, .int .i64 0, .int .i64 0, .int .i64 0, .int .i64 0, .int .i64 0, .int .i64 0] 27)) (fns.map (.int .i64)) 3 j (.int .i64 f) (by rw [List.getElem?_map, hf]; rfl)
      rw [World.size_alloc] at hc
      exact hc
  case round =>
    obtain ⟨k, hk, rfl, hL, hF, hCr⟩ := hrel
    by_cases hk8 : k < 8
    · have hk2 : (k : Int) < 8 := by omega
      obtain ⟨f, hf⟩ : ∃ f, fns[k]? = some f := ⟨_, List.getElem?_eq_getElem (show k < fns.length from hk8)⟩
      obtain ⟨v, hv⟩ : ∃ v, vs[k]? = some v := ⟨_, List.getElem?_eq_getElem (by rw [HV.out]; exact hk8)⟩
      have hcall := fun w => h k f v w hf hv
      have hcf := hF k f hf
      obtain ⟨u, c1, f1, _⟩ := hL k hk8
      have HL := Lib.hid hL
      have HF := Lib.hid hF
      have HV2 := Lib.hid hv
      clear hL hF hf hv
      go_wp2_with fail
      refine (hcall _).mono ?_
      rintro e w5 ⟨rfl, hC5⟩
      replace f1 := hC5.frozen c1 f1 id
      replace c1 := hC5.cell c1 id
      go_wp2
      go_roundw
      case rel => exact ⟨k + 1, by omega, by go_num, (HL.out.fr hC5).set hk8 v HV2.out, fun j f hf => by rw [World.cell?_setCell_other _ _ _ _ (by simp)]; exact hC5.cell (HF.out j f hf) id, (hCr.tr hC5).setCell (p := ⟨w1.heap.size, k, none⟩) (.inr hC1.size) _⟩
      case measure => first | (simp [intOf]; done) | (simp [intOf]; omega)
    · obtain rfl : k = 8 := by omega
      rw [HV.out] at hL
      have c0 := hL.get 0 (by decide) _ rfl
      have c1 := hL.get 1 (by decide) _ rfl
      have c2 := hL.get 2 (by decide) _ rfl
      have c3 := hL.get 3 (by decide) _ rfl
      have c4 := hL.get 4 (by decide) _ rfl
      have c5 := hL.get 5 (by decide) _ rfl
      have c6 := hL.get 6 (by decide) _ rfl
      have c7 := hL.get 7 (by decide) _ rfl
      clear hL hF h
      go_wp2
      go_ret
      exact ⟨rfl, hCr⟩
set_option maxRecDepth 100000 in
set_option maxHeartbeats 4000000 in
theorem order_eq (x : Int) (vs : List Int) (W : World) (hvs : vs = [0, 1, 0, 1, 0, 1, x, x]) 
    (h : ∀ (j : Nat) (f v : Int) (w : World), fns[j]? = some f → vs[j]? = some v → Calls Try.prog 12 #[.int .i64 f, .int .i64 x, .int .i64 x] w (GaveP w v 0)) : Calls Try.prog 4 #[.int .i64 x, .int .i64 x] W (True_ W) := by
  have ha := alive_any
  have HV := Lib.hid hvs
  clear hvs
  go_enter Try.func4, Try.ntmps4
  go_wp2_with fail
  refine (ha _).mono ?_
  rintro e w1 ⟨rfl, hC1⟩
  go_wp2
  go_loopw [15] (fun i wr => ∃ k : Nat, k ≤ 8 ∧ i = .int .i64 k ∧ LTo wr w1.heap.size k vs ∧ (∀ (j : Nat) (f : Int), fns[j]? = some f → wr.cell? ⟨w1.heap.size + 1, j, none⟩ = some (.int .i64 f)) ∧ Chg (fun _ => False) W wr)
    (fun i _ => 8 - (intOf i).toNat)
  case atStart =>
    refine ⟨0, Nat.zero_le _, rfl, fun j hj => ?_, fun j f hf => ?_, (hC1.alloc _).alloc _⟩
    · have hz : (w1.alloc (.cells #[.int .i64 0, .int .i64 0, .int .i64 0, .int .i64 0, .int .i64 0, .int .i64 0, .int .i64 0, .int .i64 0, .int .i64 0, .int .i64 0] 27)).cell? ⟨w1.heap.size, j, none⟩ = some (.int .i64 0) := by
        apply lit_cells w1 [.int .i64 0, .int .i64 0, .int .i64 0, .int .i64 0, .int .i64 0, .int .i64 0, .int .i64 0, .int .i64 0, .int .i64 0, .int .i64 0]
        match j, hj with
        | 0, _ => rfl
        | 1, _ => rfl
        | 2, _ => rfl
        | 3, _ => rfl
        | 4, _ => rfl
        | 5, _ => rfl
        | 6, _ => rfl
        | 7, _ => rfl
      exact ⟨0, alloc_cell hz _, alloc_frozen hz (new_frozen _ _ _ _) _, fun h => by omega⟩
    · have hc := lit_cells (w1.alloc (.cells #[.int .i64 0, .int .i64 0, .int .i64 0, .int .i64 0, .int .i64 0, .int .i64 0, .int .i64 0, .int .i64 0, .int .i64 0, .int .i64 0] 27)) (fns.map (.int .i64)) 3 j (.int .i64 f) (by rw [List.getElem?_map, hf]; rfl)
      rw [World.size_alloc] at hc
      exact hc
  case round =>
    obtain ⟨k, hk, rfl, hL, hF, hCr⟩ := hrel
    by_cases hk8 : k < 8
    · have hk2 : (k : Int) < 8 := by omega
      obtain ⟨f, hf⟩ : ∃ f, fns[k]? = some f := ⟨_, List.getElem?_eq_getElem (show k < fns.length from hk8)⟩
      obtain ⟨v, hv⟩ : ∃ v, vs[k]? = some v := ⟨_, List.getElem?_eq_getElem (by rw [HV.out]; exact hk8)⟩
      have hcall := fun w => h k f v w hf hv
      have hcf := hF k f hf
      obtain ⟨u, c1, f1, _⟩ := hL k hk8
      have HL := Lib.hid hL
      have HF := Lib.hid hF
      have HV2 := Lib.hid hv
      clear hL hF hf hv
      go_wp2_with fail
      refine (hcall _).mono ?_
      rintro e w5 ⟨rfl, hC5⟩
      replace f1 := hC5.frozen c1 f1 id
      replace c1 := hC5.cell c1 id
      go_wp2
      go_roundw
      case rel => exact ⟨k + 1, by omega, by go_num, (HL.out.fr hC5).set hk8 v HV2.out, fun j f hf => by rw [World.cell?_setCell_other _ _ _ _ (by simp)]; exact hC5.cell (HF.out j f hf) id, (hCr.tr hC5).setCell (p := ⟨w1.heap.size, k, none⟩) (.inr hC1.size) _⟩
      case measure => first | (simp [intOf]; done) | (simp [intOf]; omega)
    · obtain rfl : k = 8 := by omega
      rw [HV.out] at hL
      have c0 := hL.get 0 (by decide) _ rfl
      have c1 := hL.get 1 (by decide) _ rfl
      have c2 := hL.get 2 (by decide) _ rfl
      have c3 := hL.get 3 (by decide) _ rfl
      have c4 := hL.get 4 (by decide) _ rfl
      have c5 := hL.get 5 (by decide) _ rfl
      have c6 := hL.get 6 (by decide) _ rfl
      have c7 := hL.get 7 (by decide) _ rfl
      clear hL hF h
      go_wp2
      go_ret
      exact ⟨rfl, hCr⟩
set_option maxRecDepth 100000 in
set_option maxHeartbeats 4000000 in
theorem order_gt (x y : Int) (vs : List Int) (W : World) (hvs : vs = [0, 0, 1, 0, 1, 1, y, x]) (b1 : decide (x < y) = false) (b2 : (x == y) = false) (b3 : decide (y ≤ x) = true) (b4 : (y == x) = false)
    (h : ∀ (j : Nat) (f v : Int) (w : World), fns[j]? = some f → vs[j]? = some v → Calls Try.prog 12 #[.int .i64 f, .int .i64 x, .int .i64 y] w (GaveP w v 0)) : Calls Try.prog 4 #[.int .i64 x, .int .i64 y] W (True_ W) := by
  have ha := alive_any
  have HV := Lib.hid hvs
  clear hvs
  go_enter Try.func4, Try.ntmps4
  go_wp2_with fail
  refine (ha _).mono ?_
  rintro e w1 ⟨rfl, hC1⟩
  go_wp2
  go_loopw [15] (fun i wr => ∃ k : Nat, k ≤ 8 ∧ i = .int .i64 k ∧ LTo wr w1.heap.size k vs ∧ (∀ (j : Nat) (f : Int), fns[j]? = some f → wr.cell? ⟨w1.heap.size + 1, j, none⟩ = some (.int .i64 f)) ∧ Chg (fun _ => False) W wr)
    (fun i _ => 8 - (intOf i).toNat)
  case atStart =>
    refine ⟨0, Nat.zero_le _, rfl, fun j hj => ?_, fun j f hf => ?_, (hC1.alloc _).alloc _⟩
    · have hz : (w1.alloc (.cells #[.int .i64 0, .int .i64 0, .int .i64 0, .int .i64 0, .int .i64 0, .int .i64 0, .int .i64 0, .int .i64 0, .int .i64 0, .int .i64 0] 27)).cell? ⟨w1.heap.size, j, none⟩ = some (.int .i64 0) := by
        apply lit_cells w1 [.int .i64 0, .int .i64 0, .int .i64 0, .int .i64 0, .int .i64 0, .int .i64 0, .int .i64 0, .int .i64 0, .int .i64 0, .int .i64 0]
        match j, hj with
        | 0, _ => rfl
        | 1, _ => rfl
        | 2, _ => rfl
        | 3, _ => rfl
        | 4, _ => rfl
        | 5, _ => rfl
        | 6, _ => rfl
        | 7, _ => rfl
      exact ⟨0, alloc_cell hz _, alloc_frozen hz (new_frozen _ _ _ _) _, fun h => by omega⟩
    · have hc := lit_cells (w1.alloc (.cells #[.int .i64 0, .int .i64 0, .int .i64 0, .int .i64 0, .int .i64 0, .int .i64 0, .int .i64 0, .int .i64 0, .int .i64 0, .int .i64 0] 27)) (fns.map (.int .i64)) 3 j (.int .i64 f) (by rw [List.getElem?_map, hf]; rfl)
      rw [World.size_alloc] at hc
      exact hc
  case round =>
    obtain ⟨k, hk, rfl, hL, hF, hCr⟩ := hrel
    by_cases hk8 : k < 8
    · have hk2 : (k : Int) < 8 := by omega
      obtain ⟨f, hf⟩ : ∃ f, fns[k]? = some f := ⟨_, List.getElem?_eq_getElem (show k < fns.length from hk8)⟩
      obtain ⟨v, hv⟩ : ∃ v, vs[k]? = some v := ⟨_, List.getElem?_eq_getElem (by rw [HV.out]; exact hk8)⟩
      have hcall := fun w => h k f v w hf hv
      have hcf := hF k f hf
      obtain ⟨u, c1, f1, _⟩ := hL k hk8
      have HL := Lib.hid hL
      have HF := Lib.hid hF
      have HV2 := Lib.hid hv
      clear hL hF hf hv
      go_wp2_with fail
      refine (hcall _).mono ?_
      rintro e w5 ⟨rfl, hC5⟩
      replace f1 := hC5.frozen c1 f1 id
      replace c1 := hC5.cell c1 id
      go_wp2
      go_roundw
      case rel => exact ⟨k + 1, by omega, by go_num, (HL.out.fr hC5).set hk8 v HV2.out, fun j f hf => by rw [World.cell?_setCell_other _ _ _ _ (by simp)]; exact hC5.cell (HF.out j f hf) id, (hCr.tr hC5).setCell (p := ⟨w1.heap.size, k, none⟩) (.inr hC1.size) _⟩
      case measure => first | (simp [intOf]; done) | (simp [intOf]; omega)
    · obtain rfl : k = 8 := by omega
      rw [HV.out] at hL
      have c0 := hL.get 0 (by decide) _ rfl
      have c1 := hL.get 1 (by decide) _ rfl
      have c2 := hL.get 2 (by decide) _ rfl
      have c3 := hL.get 3 (by decide) _ rfl
      have c4 := hL.get 4 (by decide) _ rfl
      have c5 := hL.get 5 (by decide) _ rfl
      have c6 := hL.get 6 (by decide) _ rfl
      have c7 := hL.get 7 (by decide) _ rfl
      clear hL hF h
      go_wp2
      go_ret
      exact ⟨rfl, hCr⟩
theorem order_calls (x y v0 v1 v2 v3 v4 v5 v6 v7 : Int) (h0 : flagI (decide (x < y)) = v0) (h1 : flagI (decide (x = y)) = v1) (h2 : flagI (decide (y < x)) = v2) (h3 : flagI (decide (x ≤ y)) = v3) (h4 : flagI (decide (x ≠ y)) = v4) (h5 : flagI (decide (y ≤ x)) = v5) (h6 : min x y = v6) (h7 : max x y = v7) :
    ∀ (j : Nat) (f v : Int) (w : World), fns[j]? = some f → [v0, v1, v2, v3, v4, v5, v6, v7][j]? = some v → Calls Try.prog 12 #[.int .i64 f, .int .i64 x, .int .i64 y] w (GaveP w v 0) := by
  subst h0 h1 h2 h3 h4 h5 h6 h7
  intro j f v w hf hv
  match j with
  | 0 => cases hf; cases hv; exact two_11 x y _ _ w (lt_any x y)
  | 1 => cases hf; cases hv; exact two_9 x y _ _ w (eq_any x y)
  | 2 => cases hf; cases hv; exact two_14 x y _ _ w (gt_any x y)
  | 3 => cases hf; cases hv; exact two_12 x y _ _ w (le_any x y)
  | 4 => cases hf; cases hv; exact two_10 x y _ _ w (ne_any x y)
  | 5 => cases hf; cases hv; exact two_13 x y _ _ w (ge_any x y)
  | 6 => cases hf; cases hv; exact two_6 x y _ _ w (min_any x y)
  | 7 => cases hf; cases hv; exact two_7 x y _ _ w (max_any x y)
  | j + 8 => cases hf
theorem scalarOrder_walk (x y : Int) (W : World) (_ : (Lit.int .i64 x).wf = true) (_ : (Lit.int .i64 y).wf = true) : Calls Try.prog 4 #[.int .i64 x, .int .i64 y] W (True_ W) := by
  have T : ∀ p : Prop, ∀ _ : Decidable p, p → flagI (decide p) = 1 := fun p _ h => by rw [decide_eq_true h]; rfl
  have F : ∀ p : Prop, ∀ _ : Decidable p, ¬ p → flagI (decide p) = 0 := fun p _ h => by rw [decide_eq_false h]; rfl
  by_cases h1 : x < y
  · exact order_lt x y _ W rfl (decide_eq_true h1) (beq_eq_false_iff_ne.2 (by omega)) (decide_eq_true (by omega)) (order_calls x y _ _ _ _ _ _ _ _ (T _ _ h1) (F _ _ (by omega)) (F _ _ (by omega)) (T _ _ (by omega)) (T _ _ (by omega)) (F _ _ (by omega)) (by omega) (by omega))
  by_cases h2 : x = y
  · subst h2
    exact order_eq x _ W rfl (order_calls x x _ _ _ _ _ _ _ _ (F _ _ (by omega)) (T _ _ (by omega)) (F _ _ (by omega)) (T _ _ (by omega)) (F _ _ (by omega)) (T _ _ (by omega)) (by omega) (by omega))
  exact order_gt x y _ W rfl (decide_eq_false h1) (beq_eq_false_iff_ne.2 (by omega)) (decide_eq_true (by omega)) (beq_eq_false_iff_ne.2 (by omega)) (order_calls x y _ _ _ _ _ _ _ _ (F _ _ (by omega)) (F _ _ (by omega)) (T _ _ (by omega)) (F _ _ (by omega)) (T _ _ (by omega)) (T _ _ (by omega)) (by omega) (by omega))
end Go.Proofs.Ytachmmicdjmjkaa
