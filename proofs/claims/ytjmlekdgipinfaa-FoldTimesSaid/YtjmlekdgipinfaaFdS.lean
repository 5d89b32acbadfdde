/- fold: the outer product. -/
import Derived.Test.YtjmlekdgipinfaaFdR
import Derived.Test.YtjmlekdgipinfaaFdI
import Derived.Test.YtjmlekdgipinfaaScY
namespace Go.Proofs.Ytjmlekdgipinfaa
open Go.RowKit Go.Shelf

/-- Which two stand behind a place of an outer product. -/
def ouP (p : Int → Int → Int × Int) (xs ys : List Int) (i : Nat) : Int × Int := p (xs.getD (i / ys.length) 0) (ys.getD (i % ys.length) 0)
set_option maxRecDepth 100000 in
set_option maxHeartbeats 2000000 in
theorem outer1_any (p : Int → Int → Int × Int) (vf va vb : Value) (xs ys : List Int) (b10 ba b12 bb i : Nat) (w : World) (hF : Fn2 w vf p) (hX : Ls w va xs) (hY : Ls w vb ys)
    (c10 : w.cell? ⟨b10, 0, none⟩ = some vf) (ca : w.cell? ⟨ba, 2, none⟩ = some va) (c12 : w.cell? ⟨b12, 0, none⟩ = some (.int .i64 ys.length)) (cb : w.cell? ⟨bb, 2, none⟩ = some vb)
    (hi : i < xs.length * ys.length) (hxl : xs.length ≤ 1000000) (hyl : ys.length ≤ 1000000) (hxI : ∀ x ∈ xs, In x) (hyI : ∀ x ∈ ys, In x) :
    Calls Try.prog 46 #[.int .i64 i, .pointer (some ⟨b10, 0, none⟩), .pointer (some ⟨ba, 0, none⟩), .pointer (some ⟨b12, 0, none⟩), .pointer (some ⟨bb, 0, none⟩)] w (GaveP w (ouP p xs ys i).1 (ouP p xs ys i).2) := by
  obtain ⟨gf, lb, rfl, egf, hcf⟩ := hF
  have hN : 0 < ys.length := by
    rcases Nat.eq_zero_or_pos ys.length with h | h
    · rw [h, Nat.mul_zero] at hi; omega
    · exact h
  obtain ⟨q, hq⟩ : ∃ q, i / ys.length = q := ⟨_, rfl⟩
  obtain ⟨r, hr⟩ : ∃ r, i % ys.length = r := ⟨_, rfl⟩
  have hql : q < xs.length := by rw [← hq]; exact (Nat.div_lt_iff_lt_mul hN).2 hi
  have hrl : r < ys.length := by rw [← hr]; exact Nat.mod_lt _ hN
  obtain ⟨xa, oa, cxa, rfl, hx⟩ := hX.at hql
  obtain ⟨xb, ob, cxb, rfl, hy⟩ := hY.at hrl
  have hIx := hxI _ (List.getElem_mem hql)
  have hIy := hyI _ (List.getElem_mem hrl)
  have hou : ouP p xs ys i = p xs[q] ys[r] := by
    unfold ouP
    rw [hq, hr]
    simp [hql, hrl]
  rw [hou]
  generalize xs[q] = x at *
  generalize ys[r] = y at *
  have hcc := hcf x y hIx hIy w.drew (Chg.refl _ _).drew
  generalize p x y = res at *
  unfold GaveP at hcc
  have hib : i < 1000000 * 1000000 := Nat.lt_of_lt_of_le hi (Nat.mul_le_mul hxl hyl)
  have d1 : Int.tdiv (i : Int) (ys.length : Int) = (q : Int) := by rw [Int.tdiv_eq_ediv_of_nonneg (by omega), ← hq]; exact (Int.natCast_ediv _ _).symm
  have d2 : Int.tmod (i : Int) (ys.length : Int) = (r : Int) := by rw [Int.tmod_eq_emod_of_nonneg (by omega), ← hr]; exact (Int.natCast_emod _ _).symm
  have k1 : IntKind.i64.wrap (q : Int) = (q : Int) := IntWalk.i64_in _ (by clear d1 d2; omega)
  have k2 : IntKind.i64.wrap (r : Int) = (r : Int) := IntWalk.i64_in _ (by clear d1 d2; omega)
  have n1 : ¬ (ys.length : Int) = 0 := by clear d1 d2; omega
  have n2 : ¬ ys.length = 0 := by clear d1 d2; omega
  have n3 : ¬ ys = [] := by intro e; rw [e] at n2; exact n2 rfl
  have q0 : (0 : Int) ≤ (q : Int) := by clear d1 d2; omega
  have q1 : (q : Int) < (xs.length : Int) := by clear d1 d2; omega
  have r0 : (0 : Int) ≤ (r : Int) := by clear d1 d2; omega
  have r1 : (r : Int) < (ys.length : Int) := by clear d1 d2; omega
  have KP := Lib.hid (show ∀ w', Chg (fun _ => False) w w' → (Chg (fun _ => False) w w' ∧ w'.cell? ⟨b10, 0, none⟩ = some (.func (.func gf) #[] lb) ∧ w'.cell? ⟨ba, 2, none⟩ = some (.slice (some ⟨xa, oa, none⟩) xs.length cxa) ∧ w'.cell? ⟨b12, 0, none⟩ = some (.int .i64 ys.length) ∧ w'.cell? ⟨bb, 2, none⟩ = some (.slice (some ⟨xb, ob, none⟩) ys.length cxb) ∧ w'.cell? ⟨xa, oa + q, none⟩ = some (.int .i64 x) ∧ w'.cell? ⟨xb, ob + r, none⟩ = some (.int .i64 y)) from fun w' h => ⟨h, h.cell c10 id, h.cell ca id, h.cell c12 id, h.cell cb id, h.cell hx id, h.cell hy id⟩)
  clear hou hIx hIy hcf hxI hyI hN hq hr hql hrl hi hib hxl hyl hX hY
  go_enter Try.func46, Try.ntmps46
  go_wp2
  go_region_held3 (fun w' => (Chg (fun _ => False) w w' ∧ w'.cell? ⟨b10, 0, none⟩ = some (.func (.func gf) #[] lb) ∧ w'.cell? ⟨ba, 2, none⟩ = some (.slice (some ⟨xa, oa, none⟩) xs.length cxa) ∧ w'.cell? ⟨b12, 0, none⟩ = some (.int .i64 ys.length) ∧ w'.cell? ⟨bb, 2, none⟩ = some (.slice (some ⟨xb, ob, none⟩) ys.length cxb) ∧ w'.cell? ⟨xa, oa + q, none⟩ = some (.int .i64 x) ∧ w'.cell? ⟨xb, ob + r, none⟩ = some (.int .i64 y))) ((refine KP.out _ ?_; repeat (first | (with_reducible exact Chg.refl _ _) | (with_reducible refine chg_drew' ?_) | (with_reducible refine Chg.tr ?_ hCP)))) (first | ((with_reducible refine hcc.mono ?_); rintro e9 wP ⟨rfl, hCP⟩))
  all_goals
    rename_i hHd
    have HF := Lib.hid hHd.1
    clear hHd hcc
    go_wp2
    go_ret2
    exact ⟨rfl, HF.out⟩
end Go.Proofs.Ytjmlekdgipinfaa
