/- fold: the plain law of parts. -/
import Derived.Test.YtjmlekdgipinfaaFdK
namespace Go.Proofs.Ytjmlekdgipinfaa
open Go.RowKit Go.Shelf

theorem fit_zero {n : Int} (h : fitE n ≠ 0) : fitN n = 0 := by
  unfold fitE at h
  unfold fitN
  split at h
  · exact absurd rfl h
  · rename_i g; rw [if_neg g]
theorem two_zero {f x y : Int} (h : (twoP f x y).2 ≠ 0) : (twoP f x y).1 = 0 := by
  cases hb : binB f with
  | false => rw [twoP_no hb]
  | true =>
    rcases bin_cases hb with rfl | rfl | rfl | rfl | rfl | rfl | rfl | rfl | rfl | rfl | rfl | rfl | rfl | rfl | rfl | rfl
    · exact fit_zero (n := x + y) h
    · exact fit_zero (n := x - y) h
    · exact fit_zero (n := x * y) h
    · change divE x y ≠ 0 at h
      show divN x y = 0
      unfold divE at h
      unfold divN
      split
      · rfl
      · rename_i g; rw [if_neg g] at h; exact fit_zero h
    · exact absurd rfl h
    · exact absurd rfl h
    · exact absurd rfl h
    · change powE x y ≠ 0 at h
      show powN x y = 0
      unfold powE at h
      unfold powN
      split
      · rename_i g; rw [if_pos g] at h; exact fit_zero h
      · rename_i g
        rw [if_neg g] at h
        split at h
        · exact absurd rfl h
        · rename_i g2
          rw [if_neg (fun e => g2 (.inl e)), if_neg (fun e => g2 (.inr e))]
    · exact absurd rfl h
    · exact absurd rfl h
    · exact absurd rfl h
    · exact absurd rfl h
    · exact absurd rfl h
    · exact absurd rfl h
    · change logE x y ≠ 0 at h
      show andN x y = 0
      unfold logE at h
      unfold andN
      split at h
      · exact absurd rfl h
      · rename_i g; rw [if_neg g]
    · change logE x y ≠ 0 at h
      show orN x y = 0
      unfold logE at h
      unfold orN
      split at h
      · exact absurd rfl h
      · rename_i g; rw [if_neg g]
theorem row_step {f x : Int} {r : List Int} (hr : r ≠ []) (h : (rowP f r).2 = 0) : rowP f (x :: r) = twoP f x (rowP f r).1 := by
  rw [rowP_cons f x hr]
  unfold stpP
  rw [if_pos h]
  split
  · rename_i g; rw [← g]
  · rename_i g; rw [← two_zero g]
theorem row_bad {f x : Int} {r : List Int} (hr : r ≠ []) (h : (rowP f r).2 ≠ 0) : (rowP f (x :: r)).2 = (rowP f r).2 := by
  rw [rowP_cons f x hr, stpP_err h]
theorem beg_take {f : Int} {l : List Int} {k i : Nat} (h : i < k) : begP f (l.take k) i = begP f l i := by
  unfold begP
  rw [List.take_take, Nat.min_eq_left (by omega)]
theorem tab_take {f : Int} {l : List Int} {k : Nat} : tabP k (begP f (l.take k)) = tabP k (begP f l) := by
  unfold tabP
  exact List.map_congr_left fun i hi => beg_take (List.mem_range.1 hi)
theorem sc_take {f : Int} {l : List Int} {k : Nat} (h : k ≤ l.length) : scE f (l.take k) = fstE (tabP k (begP f l)) := by
  unfold scE
  rw [List.length_take, Nat.min_eq_left h, tab_take]
theorem sc_ok {f : Int} {l : List Int} {k : Nat} (h : k ≤ l.length) (h0 : scE f l = 0) : scE f (l.take k) = 0 := by
  rw [sc_take h]
  exact fstE_of fun i hi => fstE_zero h0 i (by omega)
theorem sc_bad {f : Int} {l : List Int} {k : Nat} (h : k ≤ l.length) : scE f (l.take k) = 0 ∨ scE f (l.take k) = scE f l := by
  rw [sc_take h]
  by_cases g : fstE (tabP k (begP f l)) = 0
  · exact .inl g
  · exact .inr (fstE_all h g).symm
theorem tabV_take {n k : Nat} {el : Nat → Int × Int} (h : k ≤ n) : tabV k el = (tabV n el).take k := by
  unfold tabV tabP
  rw [← List.map_take, ← List.map_take, List.take_range, Nat.min_eq_left h]
theorem tabV_beg {f : Int} {l : List Int} {k : Nat} (h : k ≤ l.length) : tabV (l.take k).length (begP f (l.take k)) = (tabV l.length (begP f l)).take k := by
  rw [List.length_take, Nat.min_eq_left h, ← tabV_take h]
  unfold tabV
  rw [tab_take]
theorem sc_last {f : Int} {l : List Int} (h : 0 < l.length) (h0 : scE f l = 0) : (rowP f l).2 = 0 := by
  rw [← beg_last h]
  exact fstE_zero h0 _ (by omega)
theorem cut_from {w : World} {v : Value} {xs : List Int} (h : Ls w v xs) (h1 : 1 ≤ xs.length) : ∃ ao c, Ls w (.slice ao (xs.length - 1) c) (xs.drop 1) ∧ (∀ W, (Instr.slice 23 v (some (.int .i64 1)) none none).run Try.prog W = .ok (.slice ao (xs.length - 1) c) W) := by
  obtain ⟨ao, c, hS, _, _, h4, _⟩ := Sl.slice (P := Try.prog) 23 2 Try.underlying23 fsizeOf_long h 1 xs.length h1 (by rw [List.length_map]; exact Nat.le_refl _)
  refine ⟨ao, c, ?_, h4 (by rw [List.length_map])⟩
  unfold Ls
  rw [List.take_of_length_le (by rw [List.length_map]; exact Nat.le_refl _)] at hS
  rw [List.map_drop]
  exact hS
theorem cut_upto {w : World} {v : Value} {xs : List Int} (h : Ls w v xs) (k : Nat) (h1 : k ≤ xs.length) : ∃ ao c, Ls w (.slice ao k c) (xs.take k) ∧ (∀ W, (Instr.slice 23 v none (some (.int .i64 (k : Int))) none).run Try.prog W = .ok (.slice ao k c) W) := by
  obtain ⟨ao, c, h2, _, h3⟩ := h.cut 0 k k (Nat.zero_le _) h1 (by omega)
  rw [List.drop_zero] at h2
  exact ⟨ao, c, h2, h3 rfl⟩
end Go.Proofs.Ytjmlekdgipinfaa
