/- fold: a table's rows, and their beginnings. -/
import Derived.Test.YtjmlekdgipinfaaMt36
import Derived.Deep.RegionHeld3
namespace Go.Proofs.Ytjmlekdgipinfaa
open Go.RowKit Go.Shelf

theorem chg_drewD {w w' : World} (h : Chg (fun _ => False) w w') : Chg (fun _ => False) w w'.drew := h.drew
theorem fsizeOf_long (w : World) : (sizeOf 2).run Try.prog w = .ok 1 w := by kernel_rfl
theorem Ls.cut {w : World} {v : Value} {xs : List Int} (h : Ls w v xs) (l hi n : Nat) (h1 : l ≤ hi) (h2 : hi ≤ xs.length) (hn : hi - l = n) : ∃ ao c, Ls w (.slice ao n c) ((xs.take hi).drop l) ∧ (∀ W, (Instr.slice 23 v (some (.int .i64 l)) (some (.int .i64 hi)) none).run Try.prog W = .ok (.slice ao n c) W) ∧
    (l = 0 → ∀ W, (Instr.slice 23 v none (some (.int .i64 hi)) none).run Try.prog W = .ok (.slice ao n c) W) := by
  obtain ⟨ao, c, hS, _, h3, _, h5⟩ := Sl.slice (P := Try.prog) 23 2 Try.underlying23 fsizeOf_long h l hi h1 (by rw [List.length_map]; exact h2)
  rw [hn] at hS h3 h5
  refine ⟨ao, c, ?_, h3, h5⟩
  unfold Ls
  rw [List.map_drop, List.map_take]
  exact hS
def rowL (xs : List Int) (i L : Nat) : List Int := (xs.take ((i + 1) * L)).drop (i * L)
theorem rowL_length {xs : List Int} {i L : Nat} (h : (i + 1) * L ≤ xs.length) : (rowL xs i L).length = L := by
  unfold rowL
  rw [List.length_drop, List.length_take, Nat.min_eq_left h, Nat.add_mul]; omega
def GaveSl (w : World) (n : Nat) (xs : List Int) (e : Ending) (w' : World) : Prop := ∃ ao c, e = .returned (.slice ao n c) ∧ Ls w' (.slice ao n c) xs ∧ Chg (fun _ => False) w w'
set_option maxRecDepth 100000 in
set_option maxHeartbeats 1000000 in
theorem trow_any (f k many : Int) (L i : Nat) (vs ve : Value) (s xs : List Int) (w : World) (hs : Ls w vs s) (he : Ls w ve xs) (hl : xs.length ≤ 1000000) (hi : (i + 1) * L ≤ xs.length) (hb : i ≤ 1000000 ∧ L ≤ 1000000) : Calls Try.prog 99 #[tbl f k many L vs ve, .int .i64 i] w (GaveSl w L (rowL xs i L)) := by
  obtain ⟨ao, c, hS, hrun, _⟩ := he.cut (i * L) ((i + 1) * L) L (Nat.mul_le_mul_right _ (Nat.le_succ _)) hi (by rw [Nat.add_mul]; omega)
  obtain ⟨sa, cs, rfl, _⟩ := hs.form
  obtain ⟨ea, ce, rfl, _⟩ := he.form
  have m1 : ((i : Int)) * (L : Int) = ((i * L : Nat) : Int) := (Int.natCast_mul _ _).symm
  have m2 : (((i + 1 : Nat) : Int)) * (L : Int) = (((i + 1) * L : Nat) : Int) := (Int.natCast_mul _ _).symm
  have le1 : i * L ≤ (i + 1) * L := Nat.mul_le_mul_right _ (Nat.le_succ _)
  obtain ⟨lo, hlo⟩ : ∃ lo, i * L = lo := ⟨_, rfl⟩
  obtain ⟨hj, hhj⟩ : ∃ hj, (i + 1) * L = hj := ⟨_, rfl⟩
  obtain ⟨i1, hi1⟩ : ∃ i1, i + 1 = i1 := ⟨_, rfl⟩
  rw [hlo] at m1 hrun le1
  rw [hhj] at m2 hi hrun le1
  rw [hi1] at m2
  have k1 : IntKind.i64.wrap ((i : Int) * (L : Int)) = (lo : Int) := by rw [m1, IntWalk.i64_in _ (by omega)]
  have k2 : IntKind.i64.wrap ((i : Int) + 1) = (i1 : Int) := by rw [IntWalk.i64_in _ (by omega)]; omega
  have k3 : IntKind.i64.wrap ((i1 : Int) * (L : Int)) = (hj : Int) := by rw [m2, IntWalk.i64_in _ (by omega)]
  have HS := Lib.hid hS
  unfold tbl
  clear hS hs he m1 m2 le1 hlo hhj hi1 hi hb hl
  go_enter Try.func99, Try.ntmps99
  go_wp2
  go_ret
  exact ⟨ao, c, rfl, HS.out.fr ((Chg.refl _ _).alloc _), (Chg.refl _ _).alloc _⟩
/-- A row's beginning, folded. -/
def partP (f : Int) (xs : List Int) (L n : Nat) : Int × Int := rwP f ((rowL xs (n / L) L).take (n % L + 1))
set_option maxRecDepth 100000 in
set_option maxHeartbeats 2000000 in
theorem part_any (f k many : Int) (L n : Nat) (vs ve : Value) (s xs : List Int) (w : World) (hs : Ls w vs s) (he : Ls w ve xs) (hl : xs.length ≤ 1000000) (hL : 0 < L) (hn : (n / L + 1) * L ≤ xs.length) (hI : ∀ x ∈ xs, In x) : Calls Try.prog 62 #[tbl f k many L vs ve, .int .i64 n] w (GaveP w (partP f xs L n).1 (partP f xs L n).2) := by
  obtain ⟨q, hq⟩ : ∃ q, n / L = q := ⟨_, rfl⟩
  obtain ⟨m, hm⟩ : ∃ m, n % L = m := ⟨_, rfl⟩
  have hmL : m < L := by rw [← hm]; exact Nat.mod_lt _ hL
  unfold partP
  rw [hq] at hn ⊢
  rw [hm]
  have hqb : q ≤ 1000000 ∧ L ≤ 1000000 := by
    have h1 : q * 1 ≤ (q + 1) * L := Nat.mul_le_mul (Nat.le_succ _) hL
    have h2 : 1 * L ≤ (q + 1) * L := Nat.mul_le_mul_right _ (by omega)
    omega
  have hrl := rowL_length hn
  have hri : ∀ x ∈ rowL xs q L, In x := fun x hx => hI x (List.mem_of_mem_take (List.mem_of_mem_drop hx))
  obtain ⟨sa, cs, rfl, _⟩ := hs.form
  obtain ⟨ea, ce, rfl, _⟩ := he.form
  have H1 := Lib.hid (show ∀ w', Chg (fun _ => False) w w' → Calls Try.prog 99 #[tbl f k many L (.slice sa s.length cs) (.slice ea xs.length ce), .int .i64 q] w' (GaveSl w' L (rowL xs q L)) from fun w' h => trow_any f k many L q _ _ s xs w' (hs.fr h) (he.fr h) hl hn hqb)
  have H2 := Lib.hid (show ∀ (w' : World) (v : Value), Ls w' v ((rowL xs q L).take (m + 1)) → Calls Try.prog 22 #[.int .i64 f, v] w' (GaveP w' (rwP f ((rowL xs q L).take (m + 1))).1 (rwP f ((rowL xs q L).take (m + 1))).2) from fun w' v h => row_any f v _ w' h (by rw [List.length_take]; omega) (fun x hx => hri x (List.mem_of_mem_take hx)))
  have HCUT := Lib.hid (show ∀ (w' : World) (v : Value), Ls w' v (rowL xs q L) → ∃ ao c, Ls w' (.slice ao (m + 1) c) ((rowL xs q L).take (m + 1)) ∧ (∀ W, (Instr.slice 23 v none (some (.int .i64 ((m + 1 : Nat) : Int))) none).run Try.prog W = .ok (.slice ao (m + 1) c) W) from fun w' v h => by
    obtain ⟨ao, c, h1, _, h3⟩ := h.cut 0 (m + 1) (m + 1) (Nat.zero_le _) (by omega) (by omega)
    rw [List.drop_zero] at h1
    exact ⟨ao, c, h1, h3 rfl⟩)
  have hdq : Int.tdiv (n : Int) (L : Int) = (q : Int) := by rw [Int.tdiv_eq_ediv_of_nonneg (by omega), ← hq]; exact (Int.natCast_ediv _ _).symm
  have hmq : Int.tmod (n : Int) (L : Int) = (m : Int) := by rw [Int.tmod_eq_emod_of_nonneg (by omega), ← hm]; exact (Int.natCast_emod _ _).symm
  have hne : ¬ (L : Int) = 0 := by omega
  have hne2 : ¬ L = 0 := by omega
  have hnq : n ≤ 1000000 * 1000000 + 1000000 := by
    have h1 := Nat.div_add_mod n L
    rw [hq, hm] at h1
    have h2 : L * q ≤ 1000000 * 1000000 := Nat.mul_le_mul hqb.2 hqb.1
    omega
  have k1 : IntKind.i64.wrap (q : Int) = (q : Int) := IntWalk.i64_in _ (by omega)
  have k2 : IntKind.i64.wrap (m : Int) = (m : Int) := IntWalk.i64_in _ (by omega)
  obtain ⟨m1, hm1⟩ : ∃ m1, m + 1 = m1 := ⟨_, rfl⟩
  have k3 : IntKind.i64.wrap ((m : Int) + 1) = (m1 : Int) := by rw [IntWalk.i64_in _ (by omega)]; omega
  rw [hm1] at H2 HCUT ⊢
  generalize rwP f ((rowL xs q L).take m1) = r at *
  unfold GaveP at H2
  have hC0 := (Chg.refl (fun _ => False) w).alloc (.cells #[.int .i64 f, .int .i64 k, .slice sa s.length cs, .slice ea xs.length ce, .int .i64 many, .int .i64 L] 86)
  have KP := Lib.hid (show ∀ w', Chg (fun _ => False) (w.alloc (.cells #[.int .i64 f, .int .i64 k, .slice sa s.length cs, .slice ea xs.length ce, .int .i64 many, .int .i64 L] 86)) w' → (Chg (fun _ => False) (w.alloc (.cells #[.int .i64 f, .int .i64 k, .slice sa s.length cs, .slice ea xs.length ce, .int .i64 many, .int .i64 L] 86)) w' ∧ w'.cell? ⟨w.heap.size, 0, none⟩ = some (.int .i64 f) ∧ w'.cell? ⟨w.heap.size, 1, none⟩ = some (.int .i64 k) ∧ w'.cell? ⟨w.heap.size, 2, none⟩ = some (.slice sa s.length cs) ∧ w'.cell? ⟨w.heap.size, 3, none⟩ = some (.slice ea xs.length ce) ∧ w'.cell? ⟨w.heap.size, 4, none⟩ = some (.int .i64 many) ∧ w'.cell? ⟨w.heap.size, 5, none⟩ = some (.int .i64 L)) from fun w' h =>
    ⟨h, h.cell (new_cell w _ _ rfl) id, h.cell (new_cell w _ _ rfl) id, h.cell (new_cell w _ _ rfl) id, h.cell (new_cell w _ _ rfl) id, h.cell (new_cell w _ _ rfl) id, h.cell (new_cell w _ _ rfl) id⟩)
  have HC0 := Lib.hid hC0
  clear hq hm hmL hn hqb hrl hri hs he hl hI hL hnq hm1 hC0
  unfold tbl
  unfold tbl at H1
  go_enter Try.func62, Try.ntmps62
  go_wp2
  go_region_held3 (fun w' => Chg (fun _ => False) (w.alloc (.cells #[.int .i64 f, .int .i64 k, .slice sa s.length cs, .slice ea xs.length ce, .int .i64 many, .int .i64 L] 86)) w' ∧ w'.cell? ⟨w.heap.size, 0, none⟩ = some (.int .i64 f) ∧ w'.cell? ⟨w.heap.size, 1, none⟩ = some (.int .i64 k) ∧ w'.cell? ⟨w.heap.size, 2, none⟩ = some (.slice sa s.length cs) ∧ w'.cell? ⟨w.heap.size, 3, none⟩ = some (.slice ea xs.length ce) ∧ w'.cell? ⟨w.heap.size, 4, none⟩ = some (.int .i64 many) ∧ w'.cell? ⟨w.heap.size, 5, none⟩ = some (.int .i64 L)) ((refine KP.out _ ?_; repeat (first | (with_reducible exact Chg.refl _ _) | (with_reducible refine chg_drewD ?_) | (with_reducible refine Chg.tr ?_ hC6) | (with_reducible refine Chg.tr ?_ hC5)))) (first
    | (go_at_call 99
       (with_reducible refine (H1.out _ ?_).mono ?_)
       · exact HC0.out.drew
       rintro e9 w5 ⟨a5, c5, rfl, hl5, hC5⟩
       obtain ⟨a6, c6, hl6, hrun6⟩ := HCUT.out _ _ hl5)
    | (go_at_call 22
       (with_reducible refine (H2.out _ _ ?_).mono ?_)
       · exact hl6
       rintro e9 w6 ⟨rfl, hC6⟩))
  all_goals
    rename_i hHd
    have HF := Lib.hid (HC0.out.tr hHd.1)
    clear hHd
    go_wp2
    go_ret2
    exact ⟨rfl, HF.out⟩
end Go.Proofs.Ytjmlekdgipinfaa
