/- The plain law of the document's window. -/
import Derived.Test.YtceooipljhjpaaaMeI
import Derived.Test.YtceooipljhjpaaaMdO
namespace Go.Proofs.Ytceooipljhjpaaa
open Go.RowKit Go.Shelf

theorem atL_snoc (f : List Int) (m i : Int) (hm : 0 ≤ m) : atL (f ++ [m]) i = atL f (i / m) ++ [i % m] := by
  have hp : prodL [m] = m := by simp [prodL]
  rw [atL_append _ _ _ (by rw [hp]; exact hm), hp]
  simp [atL, prodL]
theorem inL_snoc : ∀ (s xs : List Int) (h y : Int), xs.length = s.length → inL (s ++ [h]) (xs ++ [y]) = (inL s xs && (decide (0 ≤ y) && decide (y < h)))
  | [], [], h, y, _ => by simp [inL]
  | [], x :: xs, _, _, e => by simp at e
  | a :: r, [], _, _, e => by simp at e
  | a :: r, x :: xs, h, y, e => by
    rw [List.cons_append, List.cons_append, inL, inL, inL_snoc r xs h y (by simpa using e)]
    simp only [Bool.and_assoc]
theorem plL_snoc (s xs : List Int) (h y : Int) (e : xs.length = s.length) : plL (s ++ [h]) (xs ++ [y]) = plL s xs * h + y := by
  rw [plL_append _ _ _ _ e, plL_one]
  simp [prodL]
theorem wi_win : ∀ (r : List Spn) (n p b : Int), (∀ x ∈ r, 0 ≤ x.l) →
    wiR r n p b = if inL (r.reverse.map Spn.h) (List.zipWith (· + ·) (atL (r.reverse.map Spn.l) n) (r.reverse.map Spn.a)) then (0, p + plL (r.reverse.map Spn.h) (List.zipWith (· + ·) (atL (r.reverse.map Spn.l) n) (r.reverse.map Spn.a)) * b) else (-1, 0)
  | [], n, p, b, _ => by simp [wiR, inL, plL, atL]
  | x :: r, n, p, b, hr => by
    have hx := hr x (by simp)
    have ih := wi_win r (n / x.l) (p + (n % x.l + x.a) * b) (b * x.h) (fun y hy => hr y (by simp [hy]))
    rw [List.reverse_cons, List.map_append, List.map_append, List.map_append, List.map_singleton, List.map_singleton, List.map_singleton, atL_snoc _ _ _ hx,
      List.zipWith_append (by rw [atL_length]; simp)]
    simp only [List.zipWith_cons_cons, List.zipWith_nil_left]
    have el : (List.zipWith (· + ·) (atL (r.reverse.map Spn.l) (n / x.l)) (r.reverse.map Spn.a)).length = (r.reverse.map Spn.h).length := by simp [atL_length]
    simp only [inL_snoc _ _ _ _ el, plL_snoc _ _ _ _ el]
    unfold wiR
    generalize inL (r.reverse.map Spn.h) (List.zipWith (· + ·) (atL (r.reverse.map Spn.l) (n / x.l)) (r.reverse.map Spn.a)) = B at *
    generalize plL (r.reverse.map Spn.h) (List.zipWith (· + ·) (atL (r.reverse.map Spn.l) (n / x.l)) (r.reverse.map Spn.a)) = P at *
    obtain ⟨t, ht⟩ : ∃ t, n % x.l + x.a = t := ⟨_, rfl⟩
    rw [ht] at ih ⊢
    by_cases h : t < 0 ∨ x.h ≤ t
    · rw [if_pos h]
      have : (decide (0 ≤ t) && decide (t < x.h)) = false := by
        rw [Bool.and_eq_false_iff, decide_eq_false_iff_not, decide_eq_false_iff_not]
        omega
      rw [this, Bool.and_false]
      rfl
    · rw [if_neg h, ih, decide_eq_true (show 0 ≤ t by omega), decide_eq_true (show t < x.h by omega), Bool.and_true, Bool.and_true]
      cases B with
      | false => rfl
      | true =>
        simp only [if_true]
        rw [Int.add_mul, Int.mul_assoc, Int.mul_comm b x.h]
        congr 1
        omega
/-- The document's window is the way that keeps spans. -/
theorem win_wi {l : List Spn} (hs : shB (l.map Spn.h) = true) : winW (l.map Spn.h) (l.map Spn.a) (l.map Spn.l) = wiW l := by
  unfold winW wiW limW wiG
  cases hsh : shB (l.map Spn.l) with
  | false => rfl
  | true =>
    simp only [if_true]
    congr 1
    unfold tabW
    refine List.map_congr_left fun i _ => ?_
    have h := wi_win l.reverse (i : Int) 0 1 (fun x hx => ((shB_iff.1 hsh).2.1 x.l (List.mem_map_of_mem (List.mem_reverse.1 hx))).1)
    rw [List.reverse_reverse] at h
    unfold winF wiP winA plN plB
    rw [h, hs, Bool.true_and]
    split
    · rw [Int.mul_one, Int.zero_add]
    · rfl
/-- It does not hang on from where, if nothing comes out. -/
theorem win_from {s f1 f2 long : List Int} (h : (0 : Int) ∈ long ∨ f1 = f2) : winW s f1 long = winW s f2 long := by
  rcases h with h | rfl
  · unfold winW
    cases hsh : shB long with
    | false => rfl
    | true =>
      rw [cntN_ok hsh, prodL_zero _ h]
      rfl
  · rfl
theorem zw_map {f : Int → Int → Spn} {g : Spn → Int} : ∀ (xs ys : List Int), (List.zipWith f xs ys).map g = List.zipWith (fun x y => g (f x y)) xs ys
  | [], _ => by simp
  | _ :: _, [] => by simp
  | x :: xs, y :: ys => by simp [zw_map xs ys]
end Go.Proofs.Ytceooipljhjpaaa
