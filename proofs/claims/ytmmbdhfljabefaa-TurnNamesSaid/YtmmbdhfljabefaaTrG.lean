/- turn: rotate's way. -/
import Derived.Test.YtmmbdhfljabefaaTrC
import Derived.Deep.RegionWith
import Derived.RegionTactic
namespace Go.Proofs.Ytmmbdhfljabefaa
open Go.RowKit Go.Shelf

/-- The place that a row's k-th one comes from, turned by b. -/
def rotK (k b m : Int) : Int := (k + b) % m
theorem rotK_eq {k b m t : Int} (hm : 0 < m) (hk : 0 ≤ k) (ht : Int.tmod b m = t) : (-m < t ∧ t < m) ∧ 0 ≤ k + t + m ∧ (k + t + m) % m = rotK k b m ∧ Int.tmod (k + t + m) m = rotK k b m := by
  have h1 := Int.mul_tdiv_add_tmod b m
  have h2 : -m < t ∧ t < m := by
    rw [← ht]
    have a := Int.tmod_lt_of_pos b hm
    have c := Int.lt_tmod_of_pos b hm
    exact ⟨c, a⟩
  have h3 : (k + t + m) % m = rotK k b m := by
    unfold rotK
    rw [ht] at h1
    have : k + t + m = k + b + m * (1 - Int.tdiv b m) := by rw [Int.mul_sub]; omega
    rw [this, Int.add_mul_emod_self_left]
  exact ⟨h2, by omega, h3, by rw [Int.tmod_eq_emod_of_nonneg (by omega)]; exact h3⟩
set_option maxHeartbeats 1000000 in
theorem rot1_any (ba bo bl q : Nat) (all : Bool) (v : Value) (es : List Int) (row k m b : Int) (w : World) (x0 : w.cell? ⟨ba, 0, none⟩ = some (.bool all)) (x1 : w.cell? ⟨bo, 0, none⟩ = some v) (x2 : w.cell? ⟨bl, 0, none⟩ = some (.int .i64 m)) (hO : Ls w v es)
    (hq : (if all then 0 else row) = (q : Int)) (hb : es[q]? = some b) (hm : 0 < m) (hm2 : m ≤ 4096) (hk : 0 ≤ k) (hk2 : k < m) :
    Calls Try.prog 53 (#[.int .i64 row, .int .i64 k] ++ #[.pointer (some ⟨ba, 0, none⟩), .pointer (some ⟨bo, 0, none⟩), .pointer (some ⟨bl, 0, none⟩)]) w (GaveI w (rotK k b m)) := by
  obtain ⟨ao, c, rfl, _⟩ := hO.form
  obtain ⟨hql, hqb⟩ := List.getElem?_eq_some_iff.1 hb
  obtain ⟨bb, ob, cb, e1, hc⟩ := hO.at hql
  rw [hqb] at hc
  injection e1 with e1 e2 e3
  clear e2 e3
  subst e1
  obtain ⟨t, ht⟩ : ∃ t, Int.tmod b m = t := ⟨_, rfl⟩
  obtain ⟨⟨h1, h2⟩, h3, h4, h5⟩ := rotK_eq hm hk ht
  generalize rotK k b m = R at *
  have hql' : (q : Int) < (es.length : Int) := by omega
  have hq0 : (0 : Int) ≤ (q : Int) := by omega
  have w1 : IntKind.i64.wrap t = t := IntWalk.i64_in _ (by omega)
  have w2 : IntKind.i64.wrap (k + t) = k + t := IntWalk.i64_in _ (by omega)
  have w3 : IntKind.i64.wrap (k + t + m) = k + t + m := IntWalk.i64_in _ (by omega)
  have hm0 : ¬ m = 0 := by omega
  clear hb hqb hO
  cases all with
  | true =>
    simp only [if_true] at hq
    obtain rfl : q = 0 := by omega
    rw [Nat.add_zero] at hc
    clear hq
    go_enter Try.func53, Try.ntmps53
    go_wp2
    go_quiet (fail)
    go_wp2
    go_ret
    exact ⟨rfl, (Chg.refl _ _).drewN _⟩
  | false =>
    simp only [Bool.false_eq_true, if_false] at hq
    subst hq
    go_enter Try.func53, Try.ntmps53
    go_wp2
    go_quiet (fail)
    go_wp2
    go_ret
    exact ⟨rfl, (Chg.refl _ _).drewN _⟩
end Go.Proofs.Ytmmbdhfljabefaa
