/- Notes: whether one may be, and its bytes. -/
import Derived.Test.YtpiboaoifcajdaaRef1
import Derived.Test.YtpiboaoifcajdaaOpen
namespace Go.Proofs.Ytpiboaoifcajdaa
open Go.RowKit

theorem Wtr.zero (w : World) (t : TypeId) : Wtr (w.alloc (.cells #[.slice none 0 0] t)) (w.heap.size + 1) w.heap.size (.slice none 0 0) [] :=
  ⟨new_cell w _ _ rfl, new_frozen w _ _ _, World.ownsRow_nil _ _ _ _, by omega⟩
theorem wrote_fresh {W w w' : World} {v v' : Value} {xs ys : List UInt8} (hC : Chg (fun _ => False) W w) (hW : Wtr w (W.heap.size + 1) W.heap.size v xs) (hR : Wrote w w' (W.heap.size + 1) W.heap.size v v' ys) : Chg (fun _ => False) W w' :=
  hC.trans hR.chg (fun _ _ h => h) (fun i hi h => h.elim (fun e => by omega) (fun e => by have := (hW.owns.lt _ e).1; omega))
/-- A number that goes into so many bytes. -/
theorem num_fit (sz n : Nat) (hz : szd sz = true) (h : n < 2 ^ (8 * sz)) : numErr sz n = 0 ∧ numBytes sz n = be sz n := by
  have e : numErr sz n = 0 := by
    unfold numErr
    rw [if_pos hz, if_neg (by rw [Int.toNat_natCast, Nat.div_eq_of_lt h]; omega)]
  refine ⟨e, ?_⟩
  unfold numBytes
  rw [if_pos e, Int.toNat_natCast]

def inB (x : Int) : Bool := decide (0 ≤ x) && decide (x ≤ 1048576)
/-- Whether a note may be. -/
def mayB (k a b n : Int) : Bool := inB a && (inB b && (decide (0 ≤ n) && (if k = 1 ∨ k = 4 then (b == 0) && (n == 0) else if k = 5 then n == 0 else (k == 2) || (k == 3))))
def noteV (k a b n : Int) : Value := .agg #[.int .i64 k, .int .i64 a, .int .i64 b, .int .i64 n]
def GaveBo (w : World) (b : Bool) (e : Ending) (w' : World) : Prop := e = .returned (.bool b) ∧ Chg (fun _ => False) w w'

theorem in_any (x : Int) (w : World) : Calls Try.prog 42 #[.int .i64 x] w (GaveBo w (inB x)) := by
  unfold inB
  by_cases h : 0 ≤ x
  · have h1 : decide (0 ≤ x) = true := decide_eq_true h
    rw [h1]
    go_enter Try.func42, Try.ntmps42
    go_wp2
    go_ret
    exact ⟨by simp, Chg.refl _ _⟩
  · have h1 : decide (0 ≤ x) = false := decide_eq_false h
    rw [h1]
    clear h
    go_enter Try.func42, Try.ntmps42
    go_wp2
    go_ret
    exact ⟨by simp, Chg.refl _ _⟩
theorem may_na (k a b n : Int) (w : World) (h1 : ∀ w, Calls Try.prog 42 #[.int .i64 a] w (GaveBo w false))  : Calls Try.prog 28 #[.agg #[.int .i64 k, .int .i64 a, .int .i64 b, .int .i64 n]] w (GaveBo w false) := by
  go_enter Try.func28, Try.ntmps28
  go_wp2_with fail
  refine (h1 _).mono ?_
  rintro e w1 ⟨rfl, hC1⟩
  have c0 : w1.cell? ⟨w.heap.size, 0, none⟩ = some (.int .i64 k) := hC1.cell (new_cell w _ _ rfl) id
  have c1 : w1.cell? ⟨w.heap.size, 1, none⟩ = some (.int .i64 a) := hC1.cell (new_cell w _ _ rfl) id
  have c2 : w1.cell? ⟨w.heap.size, 2, none⟩ = some (.int .i64 b) := hC1.cell (new_cell w _ _ rfl) id
  have c3 : w1.cell? ⟨w.heap.size, 3, none⟩ = some (.int .i64 n) := hC1.cell (new_cell w _ _ rfl) id
  go_wp2
  go_ret
  exact ⟨rfl, ((Chg.refl _ w).alloc _).tr hC1⟩
theorem may_nb (k a b n : Int) (w : World) (h1 : ∀ w, Calls Try.prog 42 #[.int .i64 a] w (GaveBo w true)) (h2 : ∀ w, Calls Try.prog 42 #[.int .i64 b] w (GaveBo w false)) : Calls Try.prog 28 #[.agg #[.int .i64 k, .int .i64 a, .int .i64 b, .int .i64 n]] w (GaveBo w false) := by
  go_enter Try.func28, Try.ntmps28
  go_wp2_with fail
  refine (h1 _).mono ?_
  rintro e w1 ⟨rfl, hC1⟩
  have c0 : w1.cell? ⟨w.heap.size, 0, none⟩ = some (.int .i64 k) := hC1.cell (new_cell w _ _ rfl) id
  have c1 : w1.cell? ⟨w.heap.size, 1, none⟩ = some (.int .i64 a) := hC1.cell (new_cell w _ _ rfl) id
  have c2 : w1.cell? ⟨w.heap.size, 2, none⟩ = some (.int .i64 b) := hC1.cell (new_cell w _ _ rfl) id
  have c3 : w1.cell? ⟨w.heap.size, 3, none⟩ = some (.int .i64 n) := hC1.cell (new_cell w _ _ rfl) id
  go_wp2_with fail
  refine (h2 _).mono ?_
  rintro e w2 ⟨rfl, hC2⟩
  replace c0 := hC2.cell c0 id
  replace c1 := hC2.cell c1 id
  replace c2 := hC2.cell c2 id
  replace c3 := hC2.cell c3 id
  go_wp2
  go_ret
  exact ⟨by first | rfl | simp, (((Chg.refl _ w).alloc _).tr hC1).tr hC2⟩
theorem may_nn (k a b n : Int) (w : World) (h1 : ∀ w, Calls Try.prog 42 #[.int .i64 a] w (GaveBo w true)) (h2 : ∀ w, Calls Try.prog 42 #[.int .i64 b] w (GaveBo w true)) (hn : decide (n < 0) = true) : Calls Try.prog 28 #[.agg #[.int .i64 k, .int .i64 a, .int .i64 b, .int .i64 n]] w (GaveBo w false) := by
  go_enter Try.func28, Try.ntmps28
  go_wp2_with fail
  refine (h1 _).mono ?_
  rintro e w1 ⟨rfl, hC1⟩
  have c0 : w1.cell? ⟨w.heap.size, 0, none⟩ = some (.int .i64 k) := hC1.cell (new_cell w _ _ rfl) id
  have c1 : w1.cell? ⟨w.heap.size, 1, none⟩ = some (.int .i64 a) := hC1.cell (new_cell w _ _ rfl) id
  have c2 : w1.cell? ⟨w.heap.size, 2, none⟩ = some (.int .i64 b) := hC1.cell (new_cell w _ _ rfl) id
  have c3 : w1.cell? ⟨w.heap.size, 3, none⟩ = some (.int .i64 n) := hC1.cell (new_cell w _ _ rfl) id
  go_wp2_with fail
  refine (h2 _).mono ?_
  rintro e w2 ⟨rfl, hC2⟩
  replace c0 := hC2.cell c0 id
  replace c1 := hC2.cell c1 id
  replace c2 := hC2.cell c2 id
  replace c3 := hC2.cell c3 id
  go_wp2
  go_ret
  exact ⟨by first | rfl | simp, (((Chg.refl _ w).alloc _).tr hC1).tr hC2⟩
theorem may_bc (a b n : Int) (w : World) (h1 : ∀ w, Calls Try.prog 42 #[.int .i64 a] w (GaveBo w true)) (h2 : ∀ w, Calls Try.prog 42 #[.int .i64 b] w (GaveBo w true)) (hn : decide (n < 0) = false) (hb : (b == 0) = true) : Calls Try.prog 28 #[.agg #[.int .i64 1, .int .i64 a, .int .i64 b, .int .i64 n]] w (GaveBo w (n == 0)) := by
  go_enter Try.func28, Try.ntmps28
  go_wp2_with fail
  refine (h1 _).mono ?_
  rintro e w1 ⟨rfl, hC1⟩
  have c0 : w1.cell? ⟨w.heap.size, 0, none⟩ = some (.int .i64 1) := hC1.cell (new_cell w _ _ rfl) id
  have c1 : w1.cell? ⟨w.heap.size, 1, none⟩ = some (.int .i64 a) := hC1.cell (new_cell w _ _ rfl) id
  have c2 : w1.cell? ⟨w.heap.size, 2, none⟩ = some (.int .i64 b) := hC1.cell (new_cell w _ _ rfl) id
  have c3 : w1.cell? ⟨w.heap.size, 3, none⟩ = some (.int .i64 n) := hC1.cell (new_cell w _ _ rfl) id
  go_wp2_with fail
  refine (h2 _).mono ?_
  rintro e w2 ⟨rfl, hC2⟩
  replace c0 := hC2.cell c0 id
  replace c1 := hC2.cell c1 id
  replace c2 := hC2.cell c2 id
  replace c3 := hC2.cell c3 id
  go_wp2
  go_ret
  exact ⟨by first | rfl | simp, (((Chg.refl _ w).alloc _).tr hC1).tr hC2⟩
theorem may_bx (a b n : Int) (w : World) (h1 : ∀ w, Calls Try.prog 42 #[.int .i64 a] w (GaveBo w true)) (h2 : ∀ w, Calls Try.prog 42 #[.int .i64 b] w (GaveBo w true)) (hn : decide (n < 0) = false) (hb : (b == 0) = false) : Calls Try.prog 28 #[.agg #[.int .i64 1, .int .i64 a, .int .i64 b, .int .i64 n]] w (GaveBo w false) := by
  go_enter Try.func28, Try.ntmps28
  go_wp2_with fail
  refine (h1 _).mono ?_
  rintro e w1 ⟨rfl, hC1⟩
  have c0 : w1.cell? ⟨w.heap.size, 0, none⟩ = some (.int .i64 1) := hC1.cell (new_cell w _ _ rfl) id
  have c1 : w1.cell? ⟨w.heap.size, 1, none⟩ = some (.int .i64 a) := hC1.cell (new_cell w _ _ rfl) id
  have c2 : w1.cell? ⟨w.heap.size, 2, none⟩ = some (.int .i64 b) := hC1.cell (new_cell w _ _ rfl) id
  have c3 : w1.cell? ⟨w.heap.size, 3, none⟩ = some (.int .i64 n) := hC1.cell (new_cell w _ _ rfl) id
  go_wp2_with fail
  refine (h2 _).mono ?_
  rintro e w2 ⟨rfl, hC2⟩
  replace c0 := hC2.cell c0 id
  replace c1 := hC2.cell c1 id
  replace c2 := hC2.cell c2 id
  replace c3 := hC2.cell c3 id
  go_wp2
  go_ret
  exact ⟨by first | rfl | simp, (((Chg.refl _ w).alloc _).tr hC1).tr hC2⟩
theorem may_cc (a b n : Int) (w : World) (h1 : ∀ w, Calls Try.prog 42 #[.int .i64 a] w (GaveBo w true)) (h2 : ∀ w, Calls Try.prog 42 #[.int .i64 b] w (GaveBo w true)) (hn : decide (n < 0) = false) (hb : (b == 0) = true) : Calls Try.prog 28 #[.agg #[.int .i64 4, .int .i64 a, .int .i64 b, .int .i64 n]] w (GaveBo w (n == 0)) := by
  go_enter Try.func28, Try.ntmps28
  go_wp2_with fail
  refine (h1 _).mono ?_
  rintro e w1 ⟨rfl, hC1⟩
  have c0 : w1.cell? ⟨w.heap.size, 0, none⟩ = some (.int .i64 4) := hC1.cell (new_cell w _ _ rfl) id
  have c1 : w1.cell? ⟨w.heap.size, 1, none⟩ = some (.int .i64 a) := hC1.cell (new_cell w _ _ rfl) id
  have c2 : w1.cell? ⟨w.heap.size, 2, none⟩ = some (.int .i64 b) := hC1.cell (new_cell w _ _ rfl) id
  have c3 : w1.cell? ⟨w.heap.size, 3, none⟩ = some (.int .i64 n) := hC1.cell (new_cell w _ _ rfl) id
  go_wp2_with fail
  refine (h2 _).mono ?_
  rintro e w2 ⟨rfl, hC2⟩
  replace c0 := hC2.cell c0 id
  replace c1 := hC2.cell c1 id
  replace c2 := hC2.cell c2 id
  replace c3 := hC2.cell c3 id
  go_wp2
  go_ret
  exact ⟨by first | rfl | simp, (((Chg.refl _ w).alloc _).tr hC1).tr hC2⟩
theorem may_cx (a b n : Int) (w : World) (h1 : ∀ w, Calls Try.prog 42 #[.int .i64 a] w (GaveBo w true)) (h2 : ∀ w, Calls Try.prog 42 #[.int .i64 b] w (GaveBo w true)) (hn : decide (n < 0) = false) (hb : (b == 0) = false) : Calls Try.prog 28 #[.agg #[.int .i64 4, .int .i64 a, .int .i64 b, .int .i64 n]] w (GaveBo w false) := by
  go_enter Try.func28, Try.ntmps28
  go_wp2_with fail
  refine (h1 _).mono ?_
  rintro e w1 ⟨rfl, hC1⟩
  have c0 : w1.cell? ⟨w.heap.size, 0, none⟩ = some (.int .i64 4) := hC1.cell (new_cell w _ _ rfl) id
  have c1 : w1.cell? ⟨w.heap.size, 1, none⟩ = some (.int .i64 a) := hC1.cell (new_cell w _ _ rfl) id
  have c2 : w1.cell? ⟨w.heap.size, 2, none⟩ = some (.int .i64 b) := hC1.cell (new_cell w _ _ rfl) id
  have c3 : w1.cell? ⟨w.heap.size, 3, none⟩ = some (.int .i64 n) := hC1.cell (new_cell w _ _ rfl) id
  go_wp2_with fail
  refine (h2 _).mono ?_
  rintro e w2 ⟨rfl, hC2⟩
  replace c0 := hC2.cell c0 id
  replace c1 := hC2.cell c1 id
  replace c2 := hC2.cell c2 id
  replace c3 := hC2.cell c3 id
  go_wp2
  go_ret
  exact ⟨by first | rfl | simp, (((Chg.refl _ w).alloc _).tr hC1).tr hC2⟩
theorem may_end (a b n : Int) (w : World) (h1 : ∀ w, Calls Try.prog 42 #[.int .i64 a] w (GaveBo w true)) (h2 : ∀ w, Calls Try.prog 42 #[.int .i64 b] w (GaveBo w true)) (hn : decide (n < 0) = false) : Calls Try.prog 28 #[.agg #[.int .i64 5, .int .i64 a, .int .i64 b, .int .i64 n]] w (GaveBo w (n == 0)) := by
  go_enter Try.func28, Try.ntmps28
  go_wp2_with fail
  refine (h1 _).mono ?_
  rintro e w1 ⟨rfl, hC1⟩
  have c0 : w1.cell? ⟨w.heap.size, 0, none⟩ = some (.int .i64 5) := hC1.cell (new_cell w _ _ rfl) id
  have c1 : w1.cell? ⟨w.heap.size, 1, none⟩ = some (.int .i64 a) := hC1.cell (new_cell w _ _ rfl) id
  have c2 : w1.cell? ⟨w.heap.size, 2, none⟩ = some (.int .i64 b) := hC1.cell (new_cell w _ _ rfl) id
  have c3 : w1.cell? ⟨w.heap.size, 3, none⟩ = some (.int .i64 n) := hC1.cell (new_cell w _ _ rfl) id
  go_wp2_with fail
  refine (h2 _).mono ?_
  rintro e w2 ⟨rfl, hC2⟩
  replace c0 := hC2.cell c0 id
  replace c1 := hC2.cell c1 id
  replace c2 := hC2.cell c2 id
  replace c3 := hC2.cell c3 id
  go_wp2
  go_ret
  exact ⟨by first | rfl | simp, (((Chg.refl _ w).alloc _).tr hC1).tr hC2⟩
theorem may_tile (a b n : Int) (w : World) (h1 : ∀ w, Calls Try.prog 42 #[.int .i64 a] w (GaveBo w true)) (h2 : ∀ w, Calls Try.prog 42 #[.int .i64 b] w (GaveBo w true)) (hn : decide (n < 0) = false) : Calls Try.prog 28 #[.agg #[.int .i64 2, .int .i64 a, .int .i64 b, .int .i64 n]] w (GaveBo w true) := by
  go_enter Try.func28, Try.ntmps28
  go_wp2_with fail
  refine (h1 _).mono ?_
  rintro e w1 ⟨rfl, hC1⟩
  have c0 : w1.cell? ⟨w.heap.size, 0, none⟩ = some (.int .i64 2) := hC1.cell (new_cell w _ _ rfl) id
  have c1 : w1.cell? ⟨w.heap.size, 1, none⟩ = some (.int .i64 a) := hC1.cell (new_cell w _ _ rfl) id
  have c2 : w1.cell? ⟨w.heap.size, 2, none⟩ = some (.int .i64 b) := hC1.cell (new_cell w _ _ rfl) id
  have c3 : w1.cell? ⟨w.heap.size, 3, none⟩ = some (.int .i64 n) := hC1.cell (new_cell w _ _ rfl) id
  go_wp2_with fail
  refine (h2 _).mono ?_
  rintro e w2 ⟨rfl, hC2⟩
  replace c0 := hC2.cell c0 id
  replace c1 := hC2.cell c1 id
  replace c2 := hC2.cell c2 id
  replace c3 := hC2.cell c3 id
  go_wp2
  go_ret
  exact ⟨by first | rfl | simp, (((Chg.refl _ w).alloc _).tr hC1).tr hC2⟩
theorem may_run (a b n : Int) (w : World) (h1 : ∀ w, Calls Try.prog 42 #[.int .i64 a] w (GaveBo w true)) (h2 : ∀ w, Calls Try.prog 42 #[.int .i64 b] w (GaveBo w true)) (hn : decide (n < 0) = false) : Calls Try.prog 28 #[.agg #[.int .i64 3, .int .i64 a, .int .i64 b, .int .i64 n]] w (GaveBo w true) := by
  go_enter Try.func28, Try.ntmps28
  go_wp2_with fail
  refine (h1 _).mono ?_
  rintro e w1 ⟨rfl, hC1⟩
  have c0 : w1.cell? ⟨w.heap.size, 0, none⟩ = some (.int .i64 3) := hC1.cell (new_cell w _ _ rfl) id
  have c1 : w1.cell? ⟨w.heap.size, 1, none⟩ = some (.int .i64 a) := hC1.cell (new_cell w _ _ rfl) id
  have c2 : w1.cell? ⟨w.heap.size, 2, none⟩ = some (.int .i64 b) := hC1.cell (new_cell w _ _ rfl) id
  have c3 : w1.cell? ⟨w.heap.size, 3, none⟩ = some (.int .i64 n) := hC1.cell (new_cell w _ _ rfl) id
  go_wp2_with fail
  refine (h2 _).mono ?_
  rintro e w2 ⟨rfl, hC2⟩
  replace c0 := hC2.cell c0 id
  replace c1 := hC2.cell c1 id
  replace c2 := hC2.cell c2 id
  replace c3 := hC2.cell c3 id
  go_wp2
  go_ret
  exact ⟨by first | rfl | simp, (((Chg.refl _ w).alloc _).tr hC1).tr hC2⟩
theorem may_other (k a b n : Int) (w : World) (h1 : ∀ w, Calls Try.prog 42 #[.int .i64 a] w (GaveBo w true)) (h2 : ∀ w, Calls Try.prog 42 #[.int .i64 b] w (GaveBo w true)) (hn : decide (n < 0) = false) (k1 : (k == 1) = false) (k2 : (k == 2) = false) (k3 : (k == 3) = false) (k4 : (k == 4) = false) (k5 : (k == 5) = false) : Calls Try.prog 28 #[.agg #[.int .i64 k, .int .i64 a, .int .i64 b, .int .i64 n]] w (GaveBo w false) := by
  go_enter Try.func28, Try.ntmps28
  go_wp2_with fail
  refine (h1 _).mono ?_
  rintro e w1 ⟨rfl, hC1⟩
  have c0 : w1.cell? ⟨w.heap.size, 0, none⟩ = some (.int .i64 k) := hC1.cell (new_cell w _ _ rfl) id
  have c1 : w1.cell? ⟨w.heap.size, 1, none⟩ = some (.int .i64 a) := hC1.cell (new_cell w _ _ rfl) id
  have c2 : w1.cell? ⟨w.heap.size, 2, none⟩ = some (.int .i64 b) := hC1.cell (new_cell w _ _ rfl) id
  have c3 : w1.cell? ⟨w.heap.size, 3, none⟩ = some (.int .i64 n) := hC1.cell (new_cell w _ _ rfl) id
  go_wp2_with fail
  refine (h2 _).mono ?_
  rintro e w2 ⟨rfl, hC2⟩
  replace c0 := hC2.cell c0 id
  replace c1 := hC2.cell c1 id
  replace c2 := hC2.cell c2 id
  replace c3 := hC2.cell c3 id
  go_wp2
  go_ret
  exact ⟨by first | rfl | simp, (((Chg.refl _ w).alloc _).tr hC1).tr hC2⟩
theorem may_any (k a b n : Int) (w : World) : Calls Try.prog 28 #[noteV k a b n] w (GaveBo w (mayB k a b n)) := by
  have h1 := in_any a
  have h2 := in_any b
  unfold mayB noteV
  cases ha : inB a with
  | false => rw [ha] at h1; exact may_na k a b n w h1
  | true =>
    rw [ha] at h1
    cases hb : inB b with
    | false => rw [hb] at h2; exact may_nb k a b n w h1 h2
    | true =>
      rw [hb] at h2
      rw [Bool.true_and, Bool.true_and]
      by_cases hn : n < 0
      · rw [decide_eq_false (show ¬ 0 ≤ n by omega)]
        exact may_nn k a b n w h1 h2 (decide_eq_true hn)
      have dn : decide (n < 0) = false := decide_eq_false hn
      rw [decide_eq_true (show 0 ≤ n by omega), Bool.true_and]
      by_cases k1 : k = 1
      · subst k1
        rw [if_pos (.inl rfl)]
        cases hb0 : b == 0 with
        | true => exact may_bc a b n w h1 h2 dn hb0
        | false => exact may_bx a b n w h1 h2 dn hb0
      by_cases k4 : k = 4
      · subst k4
        rw [if_pos (.inr rfl)]
        cases hb0 : b == 0 with
        | true => exact may_cc a b n w h1 h2 dn hb0
        | false => exact may_cx a b n w h1 h2 dn hb0
      rw [if_neg (by omega)]
      by_cases k5 : k = 5
      · subst k5
        exact may_end a b n w h1 h2 dn
      rw [if_neg k5]
      by_cases k2 : k = 2
      · subst k2
        exact may_tile a b n w h1 h2 dn
      by_cases k3 : k = 3
      · subst k3
        exact may_run a b n w h1 h2 dn
      rw [beq_eq_false_iff_ne.2 k2, beq_eq_false_iff_ne.2 k3]
      exact may_other k a b n w h1 h2 dn (beq_eq_false_iff_ne.2 k1) (beq_eq_false_iff_ne.2 k2) (beq_eq_false_iff_ne.2 k3) (beq_eq_false_iff_ne.2 k4) (beq_eq_false_iff_ne.2 k5)
end Go.Proofs.Ytpiboaoifcajdaa
