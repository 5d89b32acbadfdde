/- pick: grade. -/
import Derived.Test.YtnjnajbdpaaikaaPkZ
import Derived.Test.YtnjnajbdpaaikaaArZ
import Derived.Test.YtnjnajbdpaaikaaArC
namespace Go.Proofs.Ytnjnajbdpaaikaa
open Go.RowKit Go.Shelf

theorem isNaN_any (x : Int) (w : World) : Calls Try.prog 97 #[.int .i64 x] w (fun e w' => e = .returned (.bool false) ∧ w' = w) := by
  have h : (x != x) = false := by simp
  go_enter Try.func97, Try.ntmps97
  go_wp2
  go_ret
  exact ⟨rfl, rfl⟩
theorem cmp_any (x y : Int) (w : World) : Calls Try.prog 88 #[.int .i64 x, .int .i64 y] w (fun e w' => e = .returned (.int .i64 (cmpN x y)) ∧ w' = w) := by
  have h1 := isNaN_any x
  have h2 := isNaN_any y
  by_cases hxy : x < y
  · have d : decide (x < y) = true := decide_eq_true hxy
    rw [show cmpN x y = -1 from if_pos hxy]
    clear hxy
    go_enter Try.func88, Try.ntmps88
    go_wp2_with fail
    refine (h1 _).mono ?_
    rintro e9 w1 ⟨rfl, rfl⟩
    go_wp2_with fail
    refine (h2 _).mono ?_
    rintro e9 w1 ⟨rfl, rfl⟩
    go_wp2
    go_ret
    exact ⟨rfl, rfl⟩
  · have d : decide (x < y) = false := decide_eq_false hxy
    by_cases hyx : y < x
    · have d2 : decide (y < x) = true := decide_eq_true hyx
      rw [show cmpN x y = 1 by unfold cmpN; rw [if_neg hxy, if_pos hyx]]
      clear hxy hyx
      go_enter Try.func88, Try.ntmps88
      go_wp2_with fail
      refine (h1 _).mono ?_
      rintro e9 w1 ⟨rfl, rfl⟩
      go_wp2_with fail
      refine (h2 _).mono ?_
      rintro e9 w1 ⟨rfl, rfl⟩
      go_wp2
      go_ret
      exact ⟨rfl, rfl⟩
    · have d2 : decide (y < x) = false := decide_eq_false hyx
      rw [show cmpN x y = 0 by unfold cmpN; rw [if_neg hxy, if_neg hyx]]
      clear hxy hyx
      go_enter Try.func88, Try.ntmps88
      go_wp2_with fail
      refine (h1 _).mono ?_
      rintro e9 w1 ⟨rfl, rfl⟩
      go_wp2_with fail
      refine (h2 _).mono ?_
      rintro e9 w1 ⟨rfl, rfl⟩
      go_wp2
      go_ret
      exact ⟨rfl, rfl⟩
/-- What a place is sorted by. -/
def keyK (xs : List Int) (down : Bool) (x : Int) : Int := if down then -(xs.getD (x - 1).toNat 0) else xs.getD (x - 1).toNat 0
theorem cmpN_neg (a b : Int) : cmpN (-a) (-b) = cmpN b a := by
  unfold cmpN
  by_cases h : a < b
  · rw [if_neg (by omega), if_pos (by omega), if_neg (by omega), if_pos h]
  · by_cases h2 : b < a
    · rw [if_pos (by omega), if_pos h2]
    · rw [if_neg (by omega), if_neg (by omega), if_neg (by omega), if_neg (by omega)]
set_option maxRecDepth 100000 in
set_option maxHeartbeats 1000000 in
theorem compare_any (v : Value) (xs : List Int) (down : Bool) (x y : Int) (w : World) (hS : Ls w v xs) (hx : InP xs.length x) (hy : InP xs.length y) :
    Calls Try.prog 55 #[.agg #[v, .bool down], .int .i64 x, .int .i64 y] w (GaveI w (cmpN (keyK xs down x) (keyK xs down y))) := by
  have hm := hS.len
  unfold InP at hx hy
  obtain ⟨i, hi⟩ := Int.eq_ofNat_of_zero_le (show 0 ≤ x - 1 by omega)
  obtain ⟨j, hj⟩ := Int.eq_ofNat_of_zero_le (show 0 ≤ y - 1 by omega)
  have hi2 : i < xs.length := by omega
  have hj2 : j < xs.length := by omega
  obtain ⟨bx, ox, c, e1, c1⟩ := hS.at hi2
  subst e1
  obtain ⟨bx', ox', c', e2, c2⟩ := hS.at hj2
  injection e2 with e2 e3 e4
  injection e2 with e2
  injection e2 with e2 e5 e6
  subst e2
  subst e5
  clear e3 e4 e6
  have kx : IntKind.i64.wrap (x - 1) = (i : Int) := by rw [IntWalk.i64_in _ (by omega)]; exact hi
  have ky : IntKind.i64.wrap (y - 1) = (j : Int) := by rw [IntWalk.i64_in _ (by omega)]; exact hj
  have q1 : xs.getD (x - 1).toNat 0 = xs[i] := by rw [hi]; simp [List.getD, hi2]
  have q2 : xs.getD (y - 1).toNat 0 = xs[j] := by rw [hj]; simp [List.getD, hj2]
  have i1 : (0 : Int) ≤ (i : Int) := by omega
  have i2 : (0 : Int) ≤ (j : Int) := by omega
  have i3 : (i : Int) < (xs.length : Int) := by omega
  have i4 : (j : Int) < (xs.length : Int) := by omega
  cases down with
  | false =>
    have HK := Lib.hid (show cmpN xs[i] xs[j] = cmpN (keyK xs false x) (keyK xs false y) by unfold keyK; rw [q1, q2]; rfl)
    have hcmp := cmp_any xs[i] xs[j]
    generalize xs[i] = a at *
    generalize xs[j] = b at *
    replace c1 := alloc_cell c1 (.cells #[.slice (some ⟨bx, ox, none⟩) xs.length c, .bool false] 85)
    replace c2 := alloc_cell c2 (.cells #[.slice (some ⟨bx, ox, none⟩) xs.length c, .bool false] 85)
    clear hx hy hi hj hi2 hj2 q1 q2 hm
    go_enter Try.func55, Try.ntmps55
    go_wp2
    go_region_held3 (fun w' => w' = (w.alloc (.cells #[.slice (some ⟨bx, ox, none⟩) xs.length c, .bool false] 85)).drew) (rfl) (first | ((with_reducible refine (hcmp _).mono ?_); rintro e9 wP ⟨rfl, rfl⟩))
    all_goals
      rename_i hHd
      clear hHd
      go_wp2
      go_ret
      exact ⟨by rw [← HK.out]; rfl, ((Chg.refl _ _).alloc _).drew⟩
  | true =>
    have HK := Lib.hid (show cmpN xs[j] xs[i] = cmpN (keyK xs true x) (keyK xs true y) by unfold keyK; rw [q1, q2, if_pos rfl, if_pos rfl, cmpN_neg])
    have hcmp := cmp_any xs[j] xs[i]
    generalize xs[i] = a at *
    generalize xs[j] = b at *
    replace c1 := alloc_cell c1 (.cells #[.slice (some ⟨bx, ox, none⟩) xs.length c, .bool true] 85)
    replace c2 := alloc_cell c2 (.cells #[.slice (some ⟨bx, ox, none⟩) xs.length c, .bool true] 85)
    clear hx hy hi hj hi2 hj2 q1 q2 hm
    go_enter Try.func55, Try.ntmps55
    go_wp2
    go_region_held3 (fun w' => w' = (w.alloc (.cells #[.slice (some ⟨bx, ox, none⟩) xs.length c, .bool true] 85)).drew) (rfl) (first | ((with_reducible refine (hcmp _).mono ?_); rintro e9 wP ⟨rfl, rfl⟩))
    all_goals
      rename_i hHd
      clear hHd
      go_wp2
      go_ret
      exact ⟨by rw [← HK.out]; rfl, ((Chg.refl _ _).alloc _).drew⟩
theorem enters_cmp : ∀ args w, (callFunc 55 args).run Try.prog w = .ok (.enter 55 args) w := enters_of Try.func55 (by kernel_rfl) rfl
theorem cmpAt_of {w : World} {v : Value} {xs : List Int} {g : Nat} (down : Bool) (hS : Ls w v xs) (hg : ∀ k, v.ownBlock = some k → k ≠ g) : CmpAt w g 55 (.agg #[v, .bool down]) (keyK xs down) (InP xs.length) :=
  ⟨enters_cmp, fun x y hx hy w' hC => compare_any v xs down x y w' (hS.chg hC (fun k hk e => hg k hk e)) hx hy⟩
theorem grade1_any (i : Nat) (w : World) (h : i ≤ 1000000) : Calls Try.prog 54 (#[.int .i64 (i : Int)] ++ #[]) w (GaveI w ((i : Int) + 1)) := by
  have k1 : IntKind.i64.wrap ((i : Int) + 1) = (i : Int) + 1 := IntWalk.i64_in _ (by omega)
  have k2 : IntKind.i64.wrap (i : Int) = (i : Int) := IntWalk.i64_in _ (by omega)
  go_enter Try.func54, Try.ntmps54
  go_wp2
  go_ret
  exact ⟨rfl, Chg.refl _ _⟩
/-- A vector, or the error. -/
def vecE (A : Ar) : Int := if chkB A then (if A.s.length = 1 then 0 else 3) else 110
theorem vector_any (u : Value) (A : Ar) (w : World) (hA : Ara w u A) (hl : A.e.length ≤ 1000000) : Calls Try.prog 49 #[u] w (GaveI w (vecE A)) := by
  have hA' := hA
  obtain ⟨k, s, e⟩ := A
  obtain ⟨vs, ve, rfl, hs, he⟩ := hA
  simp only at hs he hl
  obtain ⟨sa, cs, rfl, _⟩ := hs.form
  obtain ⟨ae, ce, rfl, _⟩ := he.form
  have hC0 := (Chg.refl (fun _ => False) w).alloc (.cells #[.int .i64 k, .slice sa s.length cs, .slice ae e.length ce] 25)
  obtain ⟨y0, y1, y2⟩ := cell_two w (.int .i64 k) (.slice sa s.length cs) (.slice ae e.length ce) 25
  have hck := check_any _ ⟨k, s, e⟩ _ (hA'.fr hC0) hl
  unfold GaveI at hck
  clear hA' hs he
  cases hca : chkB ⟨k, s, e⟩ with
  | false =>
    rw [show chkE ⟨k, s, e⟩ = 110 by unfold chkE; rw [hca]; rfl] at hck
    rw [show vecE ⟨k, s, e⟩ = 110 by unfold vecE; rw [hca]; rfl]
    clear hca
    go_enter Try.func49, Try.ntmps49
    go_wp2_with fail
    refine hck.mono ?_
    clear hck
    rintro e9 w1 ⟨rfl, hC1⟩
    go_wp2
    go_ret
    exact ⟨rfl, hC0.tr hC1⟩
  | true =>
    rw [show chkE ⟨k, s, e⟩ = 0 by unfold chkE; rw [hca]; rfl] at hck
    by_cases h1 : s.length = 1
    · rw [show vecE ⟨k, s, e⟩ = 0 by unfold vecE; rw [hca, if_pos rfl, if_pos h1]]
      have b1 : ((s.length : Int) != 1) = false := by rw [h1]; rfl
      clear hca h1
      go_enter Try.func49, Try.ntmps49
      go_wp2_with fail
      refine hck.mono ?_
      clear hck
      rintro e9 w1 ⟨rfl, hC1⟩
      replace y1 := hC1.cell y1 id
      go_wp2
      go_ret
      exact ⟨rfl, hC0.tr hC1⟩
    · rw [show vecE ⟨k, s, e⟩ = 3 by unfold vecE; rw [hca, if_pos rfl, if_neg h1]]
      have b1 : ((s.length : Int) != 1) = true := by rw [bne_iff_ne]; omega
      clear hca h1
      go_enter Try.func49, Try.ntmps49
      go_wp2_with fail
      refine hck.mono ?_
      clear hck
      rintro e9 w1 ⟨rfl, hC1⟩
      replace y1 := hC1.cell y1 id
      go_wp2
      go_ret
      exact ⟨rfl, hC0.tr hC1⟩
end Go.Proofs.Ytnjnajbdpaaikaa
