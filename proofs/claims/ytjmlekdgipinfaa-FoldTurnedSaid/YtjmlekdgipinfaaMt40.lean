/- fold: the plain law of a vector's scan. -/
import Derived.Test.YtjmlekdgipinfaaMt39
namespace Go.Proofs.Ytjmlekdgipinfaa
open Go.RowKit Go.Shelf

/-- A vector. -/
def vcA (l : List Int) : Ar := ⟨1, [(l.length : Int)], l⟩
theorem vshB {n : Nat} (h : n ≤ 4096) : shB [(n : Int)] = true := by
  rw [shB_iff]
  refine ⟨by simp, fun x hx => ?_, ?_⟩
  · rw [List.mem_singleton] at hx
    omega
  · simp [prodL]; omega
theorem vchk {l : List Int} (h : l.length ≤ 4096) : chkB (vcA l) = true := by
  rw [chkB_iff]
  exact ⟨vshB h, by simp [vcA, prodL], by simp [vcA, kndB]⟩
theorem vlon {l : List Int} (h : l.length ≤ 4096) : lonN (vcA l) = l.length := by
  unfold lonN longN vcA
  rw [if_pos (vshB h)]
  simp
theorem vfine {f : Int} {l : List Int} (hb : binB f = true) (h : l.length ≤ 4096) : fineE f (vcA l) = 0 := by
  unfold fineE
  rw [if_pos hb, if_pos (vchk h)]
  rfl
/-- The beginning of a row, folded. -/
def begP (f : Int) (l : List Int) (i : Nat) : Int × Int := rowP f (l.take (i + 1))
theorem vpart {f : Int} {l : List Int} (hb : binB f = true) {i : Nat} (hi : i < l.length) : partP f l l.length i = begP f l i := by
  unfold partP rwP begP rowL
  rw [if_pos hb, Nat.div_eq_of_lt hi, Nat.mod_eq_of_lt hi]
  simp
theorem vtab {f : Int} {l : List Int} (hb : binB f = true) : tabP l.length (partP f l l.length) = tabP l.length (begP f l) := by
  unfold tabP
  exact List.map_congr_left fun i hi => vpart hb (List.mem_range.1 hi)
def scE (f : Int) (l : List Int) : Int := fstE (tabP l.length (begP f l))
theorem vscnE {f : Int} {l : List Int} (hb : binB f = true) (h : l.length ≤ 4096) : scnE f (vcA l) = scE f l := by
  unfold scnE mdE scE
  rw [if_pos (vfine hb h), vlon h]
  show fstE (tabP l.length (partP f l l.length)) = _
  rw [vtab hb]
theorem vscnA {f : Int} {l : List Int} (hb : binB f = true) (h : l.length ≤ 4096) (h0 : scE f l = 0) : scnA f (vcA l) = ⟨1, [(l.length : Int)], tabV l.length (begP f l)⟩ := by
  unfold scnA
  rw [vscnE hb h, if_pos h0, vlon h]
  show Ar.mk 1 [(l.length : Int)] (tabV l.length (partP f l l.length)) = _
  unfold tabV
  rw [vtab hb]
theorem tabV_at {n : Nat} {el : Nat → Int × Int} {i : Nat} (h : i < (tabV n el).length) : (tabV n el)[i] = (el i).1 := by simp [tabV, tabP]
/-- The greatest one. -/
theorem two7 (x y : Int) : twoP 7 x y = (max x y, 0) := by rfl
theorem two6 (x y : Int) : twoP 6 x y = (min x y, 0) := by rfl
theorem row7 : ∀ (l : List Int), l ≠ [] → (rowP 7 l).2 = 0 ∧ (rowP 7 l).1 ∈ l ∧ ∀ x ∈ l, x ≤ (rowP 7 l).1
  | [], h => absurd rfl h
  | [x], _ => ⟨rfl, by simp [rowP], fun y hy => by rw [List.mem_singleton.1 hy]; exact Int.le_refl _⟩
  | x :: y :: r, _ => by
    obtain ⟨h1, h2, h3⟩ := row7 (y :: r) (by simp)
    rw [rowP_cons 7 x (by simp)]
    unfold stpP
    rw [if_pos h1, two7]
    refine ⟨rfl, ?_, fun z hz => ?_⟩
    · show max x _ ∈ _
      rcases Int.le_total x (rowP 7 (y :: r)).1 with h | h
      · rw [Int.max_eq_right h]; exact List.mem_cons_of_mem _ h2
      · rw [Int.max_eq_left h]; simp
    · show z ≤ max x _
      rcases List.mem_cons.1 hz with rfl | hz
      · exact Int.le_max_left _ _
      · exact Int.le_trans (h3 z hz) (Int.le_max_right _ _)
theorem row6 : ∀ (l : List Int), l ≠ [] → (rowP 6 l).2 = 0 ∧ (rowP 6 l).1 ∈ l ∧ ∀ x ∈ l, (rowP 6 l).1 ≤ x
  | [], h => absurd rfl h
  | [x], _ => ⟨rfl, by simp [rowP], fun y hy => by rw [List.mem_singleton.1 hy]; exact Int.le_refl _⟩
  | x :: y :: r, _ => by
    obtain ⟨h1, h2, h3⟩ := row6 (y :: r) (by simp)
    rw [rowP_cons 6 x (by simp)]
    unfold stpP
    rw [if_pos h1, two6]
    refine ⟨rfl, ?_, fun z hz => ?_⟩
    · show min x _ ∈ _
      rcases Int.le_total x (rowP 6 (y :: r)).1 with h | h
      · rw [Int.min_eq_left h]; simp
      · rw [Int.min_eq_right h]; exact List.mem_cons_of_mem _ h2
    · show min x _ ≤ z
      rcases List.mem_cons.1 hz with rfl | hz
      · exact Int.min_le_left _ _
      · exact Int.le_trans (Int.min_le_right _ _) (h3 z hz)
theorem take_ne {l : List Int} {i : Nat} (h : i < l.length) : l.take (i + 1) ≠ [] := by
  intro e
  have := congrArg List.length e
  rw [List.length_take, List.length_nil] at this
  omega
theorem sc7 (l : List Int) : scE 7 l = 0 := fstE_of fun _ hi => (row7 _ (take_ne hi)).1
theorem beg7_ge {l : List Int} {i : Nat} (h : i < l.length) : l[i] ≤ (begP 7 l i).1 := by
  refine (row7 _ (take_ne h)).2.2 _ ?_
  rw [List.mem_take_iff_getElem]
  exact ⟨i, by omega, rfl⟩
theorem beg7_up {l : List Int} {i : Nat} (h : i + 1 < l.length) : (begP 7 l i).1 ≤ (begP 7 l (i + 1)).1 := by
  refine (row7 _ (take_ne h)).2.2 _ ?_
  have h2 := (row7 _ (take_ne (show i < l.length by omega))).2.1
  show (rowP 7 (l.take (i + 1))).1 ∈ l.take (i + 1 + 1)
  rw [List.mem_take_iff_getElem] at h2 ⊢
  obtain ⟨j, hj, e⟩ := h2
  exact ⟨j, by omega, e⟩
theorem beg_last {f : Int} {l : List Int} (h : 0 < l.length) : begP f l (l.length - 1) = rowP f l := by
  unfold begP
  rw [List.take_of_length_le (by omega)]
/-- Was it there, among so many? -/
def hitB (l : List Int) (m : Int) (i : Nat) : Bool := (l.take i).any (· == m)
theorem hit_zero (l : List Int) (m : Int) : hitB l m 0 = false := rfl
theorem hit_succ {l : List Int} {m : Int} {i : Nat} (h : i < l.length) : hitB l m (i + 1) = (hitB l m i || (l[i] == m)) := by
  unfold hitB
  rw [List.take_succ_eq_append_getElem h, List.any_append]
  simp
theorem hit_all {l : List Int} {m : Int} (h : m ∈ l) : hitB l m l.length = true := by
  unfold hitB
  rw [List.take_length, List.any_eq_true]
  exact ⟨m, h, by simp⟩
end Go.Proofs.Ytjmlekdgipinfaa
/- fold: the plain law of parts. -/
namespace Go.Proofs.Ytjmlekdgipinfaa
open Go.RowKit Go.Shelf

theorem fit_zero {n : Int} (h : fitE n ≠ 0) : fitN n = 0 := by
  unfold fitE at h
  unfold fitN
  split at h
  · exact absurd rfl h
  · rename_i g; rw [if_neg g]
theorem two_zero {f x y : Int} (h : (twoP f x y).2 ≠ 0) : (twoP f x y).1 = 0 := by
  cases hb : binB f with
  | false => rw [twoP_no hb]
  | true =>
    rcases bin_cases hb with rfl | rfl | rfl | rfl | rfl | rfl | rfl | rfl | rfl | rfl | rfl | rfl | rfl | rfl | rfl | rfl
    · exact fit_zero (n := x + y) h
    · exact fit_zero (n := x - y) h
    · exact fit_zero (n := x * y) h
    · change divE x y ≠ 0 at h
      show divN x y = 0
      unfold divE at h
      unfold divN
      split
      · rfl
      · rename_i g; rw [if_neg g] at h; exact fit_zero h
    · exact absurd rfl h
    · exact absurd rfl h
    · exact absurd rfl h
    · change powE x y ≠ 0 at h
      show powN x y = 0
      unfold powE at h
      unfold powN
      split
      · rename_i g; rw [if_pos g] at h; exact fit_zero h
      · rename_i g
        rw [if_neg g] at h
        split at h
        · exact absurd rfl h
        · rename_i g2
          rw [if_neg (fun e => g2 (.inl e)), if_neg (fun e => g2 (.inr e))]
    · exact absurd rfl h
    · exact absurd rfl h
    · exact absurd rfl h
    · exact absurd rfl h
    · exact absurd rfl h
    · exact absurd rfl h
    · change logE x y ≠ 0 at h
      show andN x y = 0
      unfold logE at h
      unfold andN
      split at h
      · exact absurd rfl h
      · rename_i g; rw [if_neg g]
    · change logE x y ≠ 0 at h
      show orN x y = 0
      unfold logE at h
      unfold orN
      split at h
      · exact absurd rfl h
      · rename_i g; rw [if_neg g]
theorem row_step {f x : Int} {r : List Int} (hr : r ≠ []) (h : (rowP f r).2 = 0) : rowP f (x :: r) = twoP f x (rowP f r).1 := by
  rw [rowP_cons f x hr]
  unfold stpP
  rw [if_pos h]
  split
  · rename_i g; rw [← g]
  · rename_i g; rw [← two_zero g]
theorem row_bad {f x : Int} {r : List Int} (hr : r ≠ []) (h : (rowP f r).2 ≠ 0) : (rowP f (x :: r)).2 = (rowP f r).2 := by
  rw [rowP_cons f x hr, stpP_err h]
theorem beg_take {f : Int} {l : List Int} {k i : Nat} (h : i < k) : begP f (l.take k) i = begP f l i := by
  unfold begP
  rw [List.take_take, Nat.min_eq_left (by omega)]
theorem tab_take {f : Int} {l : List Int} {k : Nat} : tabP k (begP f (l.take k)) = tabP k (begP f l) := by
  unfold tabP
  exact List.map_congr_left fun i hi => beg_take (List.mem_range.1 hi)
theorem sc_take {f : Int} {l : List Int} {k : Nat} (h : k ≤ l.length) : scE f (l.take k) = fstE (tabP k (begP f l)) := by
  unfold scE
  rw [List.length_take, Nat.min_eq_left h, tab_take]
theorem sc_ok {f : Int} {l : List Int} {k : Nat} (h : k ≤ l.length) (h0 : scE f l = 0) : scE f (l.take k) = 0 := by
  rw [sc_take h]
  exact fstE_of fun i hi => fstE_zero h0 i (by omega)
theorem sc_bad {f : Int} {l : List Int} {k : Nat} (h : k ≤ l.length) : scE f (l.take k) = 0 ∨ scE f (l.take k) = scE f l := by
  rw [sc_take h]
  by_cases g : fstE (tabP k (begP f l)) = 0
  · exact .inl g
  · exact .inr (fstE_all h g).symm
theorem tabV_take {n k : Nat} {el : Nat → Int × Int} (h : k ≤ n) : tabV k el = (tabV n el).take k := by
  unfold tabV tabP
  rw [← List.map_take, ← List.map_take, List.take_range, Nat.min_eq_left h]
theorem tabV_beg {f : Int} {l : List Int} {k : Nat} (h : k ≤ l.length) : tabV (l.take k).length (begP f (l.take k)) = (tabV l.length (begP f l)).take k := by
  rw [List.length_take, Nat.min_eq_left h, ← tabV_take h]
  unfold tabV
  rw [tab_take]
theorem sc_last {f : Int} {l : List Int} (h : 0 < l.length) (h0 : scE f l = 0) : (rowP f l).2 = 0 := by
  rw [← beg_last h]
  exact fstE_zero h0 _ (by omega)
theorem cut_from {w : World} {v : Value} {xs : List Int} (h : Ls w v xs) (h1 : 1 ≤ xs.length) : ∃ ao c, Ls w (.slice ao (xs.length - 1) c) (xs.drop 1) ∧ (∀ W, (Instr.slice 23 v (some (.int .i64 1)) none none).run Try.prog W = .ok (.slice ao (xs.length - 1) c) W) := by
  obtain ⟨ao, c, hS, _, _, h4, _⟩ := Sl.slice (P := Try.prog) 23 2 Try.underlying23 fsizeOf_long h 1 xs.length h1 (by rw [List.length_map]; exact Nat.le_refl _)
  refine ⟨ao, c, ?_, h4 (by rw [List.length_map])⟩
  unfold Ls
  rw [List.take_of_length_le (by rw [List.length_map]; exact Nat.le_refl _)] at hS
  rw [List.map_drop]
  exact hS
theorem cut_upto {w : World} {v : Value} {xs : List Int} (h : Ls w v xs) (k : Nat) (h1 : k ≤ xs.length) : ∃ ao c, Ls w (.slice ao k c) (xs.take k) ∧ (∀ W, (Instr.slice 23 v none (some (.int .i64 (k : Int))) none).run Try.prog W = .ok (.slice ao k c) W) := by
  obtain ⟨ao, c, h2, _, h3⟩ := h.cut 0 k k (Nat.zero_le _) h1 (by omega)
  rw [List.drop_zero] at h2
  exact ⟨ao, c, h2, h3 rfl⟩
end Go.Proofs.Ytjmlekdgipinfaa
