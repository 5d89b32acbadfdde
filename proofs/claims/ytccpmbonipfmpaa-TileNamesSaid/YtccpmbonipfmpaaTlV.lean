/- tile.Decode, whole. -/
import Derived.Test.YtccpmbonipfmpaaTlU
namespace Go.Proofs.Ytccpmbonipfmpaa
open Go.RowKit Go.Shelf

theorem dec_leave0 {w W : World} {t : Array Value} {u0 u1 u2 u3 : Value} (ht2 : t[2]? = some (.pointer (some ⟨w.heap.size, 0, none⟩))) (ht3 : t[3]? = some (.int .i64 50))
    (y0 : W.cell? ⟨w.heap.size, 0, none⟩ = some u0) (y1 : W.cell? ⟨w.heap.size, 1, none⟩ = some u1) (y2 : W.cell? ⟨w.heap.size, 2, none⟩ = some u2) (y3 : W.cell? ⟨w.heap.size, 3, none⟩ = some u3) (hW : Chg (fun _ => False) w W) :
    bodyPostM Fence.wide 8 Try.prog Try.f16 (GaveT w 0 0 0 [] 50) .ret { tmps := t, defers := [] } ((((W.setCell ⟨w.heap.size, 0, none⟩ (.int .i64 0)).setCell ⟨w.heap.size, 1, none⟩ (.int .i64 0)).setCell ⟨w.heap.size, 2, none⟩ (.int .i64 0)).setCell ⟨w.heap.size, 3, none⟩ (.slice none 0 0)) := by
  obtain ⟨g0, g1, g2, g3⟩ := set4_cells (.int .i64 0) (.int .i64 0) (.int .i64 0) (.slice none 0 0) y0 y1 y2 y3
  refine leave_plain (v := .tuple #[.agg #[.int .i64 0, .int .i64 0, .int .i64 0, .slice none 0 0], .int .i64 50]) ?_ ⟨_, rfl, World.ownsRow_nil _ _ _ _, ((((hW.setCell (p := ⟨w.heap.size, 0, none⟩) (.inr (Nat.le_refl _)) _).setCell (p := ⟨w.heap.size, 1, none⟩) (.inr (Nat.le_refl _)) _).setCell (p := ⟨w.heap.size, 2, none⟩) (.inr (Nat.le_refl _)) _).setCell (p := ⟨w.heap.size, 3, none⟩) (.inr (Nat.le_refl _)) _)⟩
  have f2 : ((((W.setCell ⟨w.heap.size, 0, none⟩ (.int .i64 0)).setCell ⟨w.heap.size, 1, none⟩ (.int .i64 0)).setCell ⟨w.heap.size, 2, none⟩ (.int .i64 0)).setCell ⟨w.heap.size, 3, none⟩ (.slice none 0 0)).cell? ⟨w.heap.size, 2, none⟩ = some (.int .i64 0) := by
    rw [World.cell?_setCell_other _ _ _ _ (by simp)]; exact g2
  have f1 : ((((W.setCell ⟨w.heap.size, 0, none⟩ (.int .i64 0)).setCell ⟨w.heap.size, 1, none⟩ (.int .i64 0)).setCell ⟨w.heap.size, 2, none⟩ (.int .i64 0)).setCell ⟨w.heap.size, 3, none⟩ (.slice none 0 0)).cell? ⟨w.heap.size, 1, none⟩ = some (.int .i64 0) := by
    rw [World.cell?_setCell_other _ _ _ _ (by simp), World.cell?_setCell_other _ _ _ _ (by simp)]; exact g1
  have f0 : ((((W.setCell ⟨w.heap.size, 0, none⟩ (.int .i64 0)).setCell ⟨w.heap.size, 1, none⟩ (.int .i64 0)).setCell ⟨w.heap.size, 2, none⟩ (.int .i64 0)).setCell ⟨w.heap.size, 3, none⟩ (.slice none 0 0)).cell? ⟨w.heap.size, 0, none⟩ = some (.int .i64 0) := by
    rw [World.cell?_setCell_other _ _ _ _ (by simp), World.cell?_setCell_other _ _ _ _ (by simp), World.cell?_setCell_other _ _ _ _ (by simp)]; exact g0
  generalize (((W.setCell ⟨w.heap.size, 0, none⟩ (.int .i64 0)).setCell ⟨w.heap.size, 1, none⟩ (.int .i64 0)).setCell ⟨w.heap.size, 2, none⟩ (.int .i64 0)).setCell ⟨w.heap.size, 3, none⟩ (.slice none 0 0) = W4 at *
  simp [results, Try.f16, go_sem, ht2, ht3, f0, f1, f2, g3]
theorem dec_no (v : Value) (w : World) (hs : ∀ w', Chg (fun _ => False) w w' → Calls Try.prog 18 #[v] w' (GaveBo w' false)) : Calls Try.prog 16 #[v] w (GaveT w 0 0 0 [] 50) := by
  have hX1 : Chg (fun _ => False) w (w.alloc (.cells #[.int .i64 0, .int .i64 0, .int .i64 0, .slice none 0 0] 24)) := (Chg.refl _ w).alloc _
  have y : ∀ i v, (#[.int .i64 0, .int .i64 0, .int .i64 0, .slice none 0 0] : Array Value)[i]? = some v → (w.alloc (.cells #[.int .i64 0, .int .i64 0, .int .i64 0, .slice none 0 0] 24)).cell? ⟨w.heap.size, i, none⟩ = some v := fun i v h => new_cell w _ _ h
  have y0 := y 0 _ rfl
  have y1 := y 1 _ rfl
  have y2 := y 2 _ rfl
  have y3 := y 3 _ rfl
  have z : ∀ i, (w.alloc (.cells #[.int .i64 0, .int .i64 0, .int .i64 0, .slice none 0 0] 24)).frozen? ⟨w.heap.size, i, none⟩ = false := fun i => new_frozen w _ _ i
  have z0 := z 0
  have z1 := z 1
  have z2 := z 2
  have z3 := z 3
  clear y z
  (refine calls_of_wp_marks Try.func16 rfl ?_; simp only [Try.ntmps16, List.size_toArray, List.length_cons, List.length_nil, Nat.reduceAdd, Nat.reduceSub, Array.replicate_succ, Array.replicate_zero, List.push_toArray, List.append_toArray, List.nil_append, List.cons_append])
  go_wp2
  go_step3
  go_wp2_with fail
  refine (hs _ hX1).mono ?_
  clear hs
  rintro e w1 ⟨rfl, hC1⟩
  replace z0 := hC1.frozen y0 z0 id
  replace z1 := hC1.frozen y1 z1 id
  replace z2 := hC1.frozen y2 z2 id
  replace z3 := hC1.frozen y3 z3 id
  replace y0 := hC1.cell y0 id
  replace y1 := hC1.cell y1 id
  replace y2 := hC1.cell y2 id
  replace y3 := hC1.cell y3 id
  go_wp2
  exact dec_leave0 rfl rfl y0 y1 y2 y3 (hX1.tr hC1)
/-- Are bytes a tile's? -/
def decOk (xs : List UInt8) : Bool := soundB xs && decide (tileL (pF xs) (pNo xs : Nat) (pK xs : Nat) (elemsP xs (pM xs)) ((xs.length / 128 : Nat) : Int) = xs)
def decF (xs : List UInt8) : Int := if decOk xs then pF xs else 0
def decN (xs : List UInt8) : Int := if decOk xs then (pNo xs : Nat) else 0
def decK (xs : List UInt8) : Int := if decOk xs then (pK xs : Nat) else 0
def decL (xs : List UInt8) : List Int := if decOk xs then elemsP xs (pM xs) else []
def decE (xs : List UInt8) : Int := if decOk xs then 0 else 50
theorem dec_false (xs : List UInt8) (h : decOk xs = false) : decF xs = 0 ∧ decN xs = 0 ∧ decK xs = 0 ∧ decL xs = [] ∧ decE xs = 50 := by
  unfold decF decN decK decL decE
  rw [h]
  exact ⟨rfl, rfl, rfl, rfl, rfl⟩
theorem dec_true (xs : List UInt8) (h : decOk xs = true) : decF xs = pF xs ∧ decN xs = (pNo xs : Nat) ∧ decK xs = (pK xs : Nat) ∧ decL xs = elemsP xs (pM xs) ∧ decE xs = 0 := by
  unfold decF decN decK decL decE
  rw [h]
  exact ⟨rfl, rfl, rfl, rfl, rfl⟩
theorem sound_long {xs : List UInt8} (h : soundB xs = true) : 128 ≤ xs.length ∧ xs.length % 128 = 0 ∧ xs.length / 128 ≤ 64 := by
  unfold soundB sizB at h
  rw [Bool.and_eq_true, Bool.and_eq_true, Bool.and_eq_true] at h
  have h1 := of_decide_eq_true h.2.1
  have h2 := of_decide_eq_true h.2.2.1
  have h3 := of_decide_eq_true h.2.2.2
  omega
theorem dec_cases (xs : List UInt8) (h : soundB xs = true) : DecS xs (pF xs) (pNo xs : Nat) (pK xs : Nat) (elemsP xs (pM xs)) (decL xs) (decF xs) (decN xs) (decK xs) (decE xs) (checkE (pF xs) (pNo xs : Nat) (pK xs : Nat) (elemsP xs (pM xs)) ((xs.length / 128 : Nat) : Int)) (tileL (pF xs) (pNo xs : Nat) (pK xs : Nat) (elemsP xs (pM xs)) ((xs.length / 128 : Nat) : Int)) := by
  have hl := sound_long h
  unfold DecS
  cases hk : decOk xs with
  | true =>
    have ht : tileL (pF xs) (pNo xs : Nat) (pK xs : Nat) (elemsP xs (pM xs)) ((xs.length / 128 : Nat) : Int) = xs := by
      unfold decOk at hk
      rw [Bool.and_eq_true] at hk
      exact of_decide_eq_true hk.2
    obtain ⟨a, b, c, d, e⟩ := dec_true xs hk
    refine .inr (.inr ⟨?_, ht, a, b, c, d, e⟩)
    unfold checkE
    unfold tileL at ht
    cases hc : checkB (pF xs) (pNo xs : Nat) (pK xs : Nat) (elemsP xs (pM xs)) ((xs.length / 128 : Nat) : Int) with
    | true => rfl
    | false =>
      rw [hc, if_neg (by decide)] at ht
      rw [← ht] at hl
      simp at hl
  | false =>
    obtain ⟨a, b, c, d, e⟩ := dec_false xs hk
    cases hc : checkB (pF xs) (pNo xs : Nat) (pK xs : Nat) (elemsP xs (pM xs)) ((xs.length / 128 : Nat) : Int) with
    | false =>
      refine .inl ⟨?_, a, b, c, d, e⟩
      unfold checkE
      rw [hc]
      decide
    | true =>
      refine .inr (.inl ⟨?_, ?_, a, b, c, d, e⟩)
      · unfold checkE
        rw [hc]
        rfl
      · intro ht
        unfold decOk at hk
        rw [h, Bool.true_and, decide_eq_true ht] at hk
        cases hk
theorem decode_any (v : Value) (xs : List UInt8) (w : World) (hS : Sl w v (xs.map B)) (hl : xs.length + 100 ≤ 140737488355328) : Calls Try.prog 16 #[v] w (GaveT w (decF xs) (decN xs) (decK xs) (decL xs) (decE xs)) := by
  have hs : ∀ w', Chg (fun _ => False) w w' → Calls Try.prog 18 #[v] w' (GaveBo w' (soundB xs)) := fun w' hC => sound_any v xs w' (hS.fr hC) hl
  cases h : soundB xs with
  | false =>
    have hk : decOk xs = false := by unfold decOk; rw [h]; rfl
    obtain ⟨a, b, c, d, e⟩ := dec_false xs hk
    rw [a, b, c, d, e]
    rw [h] at hs
    exact dec_no v w hs
  | true =>
    rw [h] at hs
    have hlg := sound_long h
    have hD := dec_cases xs h
    obtain ⟨ao, c, rfl, _⟩ := hS.form
    rw [List.length_map] at hS hs ⊢
    refine dec_sound ao _ c (xs.length / 128) xs w hS hl (by omega) (w64 _ (by omega)) hs _ _ _ _ _ _ _ hD (fun w' v hv => tencode_any _ _ _ _ v _ w' hv ?_)
    unfold elemsP
    rw [List.length_map, List.length_range]
    omega
end Go.Proofs.Ytccpmbonipfmpaa
