/- Two tiles the same. -/
import Derived.Test.YtccpmbonipfmpaaTlF
namespace Go.Proofs.Ytccpmbonipfmpaa
open Go.RowKit

set_option maxRecDepth 100000 in
set_option maxHeartbeats 400000 in
theorem longs_same (a1 a2 : Option Addr) (c1 c2 n : Nat) (xs ys : List Int) (w : World) (m1 : xs.length = n) (m2 : ys.length = n) (HS : Hid (Sl w (.slice a1 n c1) (xs.map I))) (HT : Hid (Sl w (.slice a2 n c2) (ys.map I))) (hl : n ≤ 140737488355328) :
    Calls Try.prog 33 #[.slice a1 n c1, .slice a2 n c2] w (GaveBo w (decide (xs = ys))) := by
  go_enter Try.func33, Try.ntmps33
  go_wp2
  go_loopw [5] (fun i wr => ∃ k : Nat, k ≤ n ∧ i = .int .i64 k ∧ xs.take k = ys.take k ∧ Chg (fun _ => False) w wr)
    (fun i _ => n - (intOf i).toNat)
  case atStart => exact ⟨0, Nat.zero_le _, rfl, rfl, Chg.refl _ _⟩
  case round =>
    obtain ⟨k, hk, rfl, he, hC⟩ := hrel
    by_cases hlt : k < n
    · obtain ⟨b1, o1, d1, e1, hx⟩ := (HS.out.fr hC).at (j := k) (by rw [List.length_map]; omega)
      obtain ⟨b2, o2, d2, e2, hy⟩ := (HT.out.fr hC).at (j := k) (by rw [List.length_map]; omega)
      injection e1 with e1 f1 f2
      injection e2 with e2 f3 f4
      subst e1 e2
      clear f1 f2 f3 f4
      rw [List.getElem_map] at hx hy
      have hnx : ∀ h1 h2, xs[k]'h1 = ys[k]'h2 → xs.take (k + 1) = ys.take (k + 1) := fun h1 h2 h => by rw [List.take_succ_eq_append_getElem h1, List.take_succ_eq_append_getElem h2, he, h]
      have hne : ∀ h1 h2, xs[k]'h1 ≠ ys[k]'h2 → xs ≠ ys := fun h1 h2 h e => h (by subst e; rfl)
      replace hnx := hnx (by omega) (by omega)
      replace hne := hne (by omega) (by omega)
      generalize xs[k] = x at *
      generalize ys[k] = y at *
      unfold I at hx hy
      have hlt' : (k : Int) < (n : Int) := by omega
      have hCd := hC.drew
      by_cases hxy : x = y
      · have hxy' : (x != y) = false := by rw [hxy]; simp
        have HN := Lib.hid (hnx hxy)
        clear hnx hne hxy he HS HT
        go_wp2
        go_quiet (fail)
        go_wp2
        go_roundw
        case rel => exact ⟨k + 1, by omega, by go_num, HN.out, by first | exact hC.drewN _ | exact hCd⟩
        case measure => first | (simp [intOf]; done) | (simp [intOf]; omega)
      · have hxy' : (x != y) = true := by simpa using hxy
        have hne' := hne hxy
        clear hnx hne hxy he HS HT
        go_wp2
        go_quiet (fail)
        go_wp2
        go_ret
        exact ⟨by rw [decide_eq_false hne']; rfl, by first | exact hC.drewN _ | exact hCd⟩
    · obtain rfl : n = k := by omega
      have hxs : xs = ys := by
        rw [List.take_of_length_le (by omega), List.take_of_length_le (by omega)] at he
        exact he
      go_wp2
      go_ret
      exact ⟨by rw [decide_eq_true hxs]; rfl, hC⟩
set_option maxHeartbeats 400000 in
theorem longs_any (u v : Value) (xs ys : List Int) (w : World) (hS : Sl w u (xs.map I)) (hT : Sl w v (ys.map I)) (hl : xs.length ≤ 140737488355328) :
    Calls Try.prog 33 #[u, v] w (GaveBo w (decide (xs = ys))) := by
  obtain ⟨a1, c1, rfl, _⟩ := hS.form
  obtain ⟨a2, c2, rfl, _⟩ := hT.form
  rw [List.length_map] at hS hT
  rw [List.length_map, List.length_map]
  by_cases hlen : xs.length = ys.length
  · rw [← hlen] at hT
    rw [← hlen]
    exact longs_same a1 a2 c1 c2 _ xs ys w rfl hlen.symm (Lib.hid hS) (Lib.hid hT) hl
  · clear hS hT
    have h1 : ((xs.length : Int) != (ys.length : Int)) = true := by simp only [bne_iff_ne, ne_eq]; omega
    have h2 : decide (xs = ys) = false := decide_eq_false (fun e => hlen (by rw [e]))
    rw [h2]
    clear h2 hlen
    go_enter Try.func33, Try.ntmps33
    go_wp2
    go_ret
    exact ⟨rfl, Chg.refl _ _⟩
theorem same_f (f1 n1 k1 f2 n2 k2 : Int) (u v : Value) (w : World) (h1 : (f1 == f2) = false) : Calls Try.prog 14 #[.agg #[.int .i64 f1, .int .i64 n1, .int .i64 k1, u], .agg #[.int .i64 f2, .int .i64 n2, .int .i64 k2, v]] w (GaveBo w false) := by
  go_enter Try.func14, Try.ntmps14
  go_wp2_with fail
  go_ret
  exact ⟨rfl, ((Chg.refl _ w).alloc _).alloc _⟩
theorem same_n (f1 n1 k1 f2 n2 k2 : Int) (u v : Value) (w : World) (h1 : (f1 == f2) = true) (h2 : (n1 == n2) = false) : Calls Try.prog 14 #[.agg #[.int .i64 f1, .int .i64 n1, .int .i64 k1, u], .agg #[.int .i64 f2, .int .i64 n2, .int .i64 k2, v]] w (GaveBo w false) := by
  go_enter Try.func14, Try.ntmps14
  go_wp2_with fail
  go_ret
  exact ⟨rfl, ((Chg.refl _ w).alloc _).alloc _⟩
theorem same_k (f1 n1 k1 f2 n2 k2 : Int) (u v : Value) (w : World) (h1 : (f1 == f2) = true) (h2 : (n1 == n2) = true) (h3 : (k1 == k2) = false) : Calls Try.prog 14 #[.agg #[.int .i64 f1, .int .i64 n1, .int .i64 k1, u], .agg #[.int .i64 f2, .int .i64 n2, .int .i64 k2, v]] w (GaveBo w false) := by
  go_enter Try.func14, Try.ntmps14
  go_wp2_with fail
  go_ret
  exact ⟨rfl, ((Chg.refl _ w).alloc _).alloc _⟩
theorem same_l (f1 n1 k1 f2 n2 k2 : Int) (u v : Value) (w : World) (b : Bool) (h1 : (f1 == f2) = true) (h2 : (n1 == n2) = true) (h3 : (k1 == k2) = true) (hl : ∀ w', Chg (fun _ => False) w w' → Calls Try.prog 33 #[u, v] w' (GaveBo w' b)) : Calls Try.prog 14 #[.agg #[.int .i64 f1, .int .i64 n1, .int .i64 k1, u], .agg #[.int .i64 f2, .int .i64 n2, .int .i64 k2, v]] w (GaveBo w b) := by
  go_enter Try.func14, Try.ntmps14
  go_wp2_with fail
  refine (hl _ (((Chg.refl _ w).alloc _).alloc _)).mono ?_
  rintro e w1 ⟨rfl, hC1⟩
  go_wp2
  go_ret
  exact ⟨rfl, (((Chg.refl _ w).alloc _).alloc _).tr hC1⟩
def sameB (f1 n1 k1 : Int) (xs : List Int) (f2 n2 k2 : Int) (ys : List Int) : Bool := (f1 == f2) && ((n1 == n2) && ((k1 == k2) && decide (xs = ys)))
theorem same_any (f1 n1 k1 f2 n2 k2 : Int) (u v : Value) (xs ys : List Int) (w : World) (hS : Sl w u (xs.map I)) (hT : Sl w v (ys.map I)) (hl : xs.length ≤ 140737488355328) :
    Calls Try.prog 14 #[tileV f1 n1 k1 u, tileV f2 n2 k2 v] w (GaveBo w (sameB f1 n1 k1 xs f2 n2 k2 ys)) := by
  unfold tileV sameB
  cases h1 : f1 == f2 with
  | false => exact same_f f1 n1 k1 f2 n2 k2 u v w h1
  | true =>
    cases h2 : n1 == n2 with
    | false => exact same_n f1 n1 k1 f2 n2 k2 u v w h1 h2
    | true =>
      cases h3 : k1 == k2 with
      | false => exact same_k f1 n1 k1 f2 n2 k2 u v w h1 h2 h3
      | true => exact same_l f1 n1 k1 f2 n2 k2 u v w _ h1 h2 h3 (fun w' hC => longs_any u v xs ys w' (hS.fr hC) (hT.fr hC) hl)
end Go.Proofs.Ytccpmbonipfmpaa
