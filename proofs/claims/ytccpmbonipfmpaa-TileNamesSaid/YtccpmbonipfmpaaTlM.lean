/- The document's Fit and Check. -/
import Derived.Test.YtccpmbonipfmpaaTlH
import Derived.BigQuiet
namespace Go.Proofs.Ytccpmbonipfmpaa
open Go.RowKit

def CellAt (w : World) (b k : Nat) (v : Value) : Prop := w.cell? ⟨b, k, none⟩ = some v
def NoBad (l : List Int) (j : Nat) : Prop := (l.take j).any badN = false
theorem fit_step (s n : Nat) (h2 : s ≤ 64) (hn : n + 3 ≤ 16 * s) : IntKind.i64.wrap ((n : Int) + 1) = (n : Int) + 1 ∧ IntKind.i64.wrap (8 * ((n : Int) + 1)) = 8 * ((n : Int) + 1) ∧ IntKind.i64.wrap (24 + 8 * ((n : Int) + 1)) = 24 + 8 * ((n : Int) + 1) ∧ IntKind.i64.wrap ((s : Int) * 128) = (s : Int) * 128 :=
  ⟨IntWalk.i64_in _ (by omega), IntWalk.i64_in _ (by omega), IntWalk.i64_in _ (by omega), IntWalk.i64_in _ (by omega)⟩
theorem fit_meas (j n : Nat) (h : j < n) : n - (intOf (.int .i64 ((j : Int) + 1))).toNat < n - (intOf (.int .i64 (j : Int))).toNat := by
  simp [intOf]
  omega
theorem r5fit_in (s : Nat) (h1 : 1 ≤ s) (h2 : s ≤ 64) (w : World) : Calls Try.prog 13 #[.int .i64 (s : Int)] w (fun e w' => e = .returned (.int .i64 ((16 * s - 3 : Nat) : Int)) ∧ w' = w) := by
  have d1 : decide ((s : Int) < 1) = false := decide_eq_false (by omega)
  have d2 : decide (64 < (s : Int)) = false := decide_eq_false (by omega)
  obtain ⟨m, hm⟩ : ∃ m, 16 * s - 3 = m := ⟨_, rfl⟩
  rw [hm]
  have HM := Lib.hid (show 1 ≤ s ∧ s ≤ 64 ∧ 16 * s = m + 3 from ⟨h1, h2, by omega⟩)
  have g1 : ¬ s < 1 := by omega
  have g2 : ¬ 64 < s := by omega
  clear hm h1 h2
  go_enter Try.func13, Try.ntmps13
  go_wp2
  go_loopw [3] (fun i wr => ∃ n : Nat, n ≤ m ∧ i = .int .i64 n ∧ wr = w) (fun i _ => m - (intOf i).toNat)
  case atStart => exact ⟨0, Nat.zero_le _, rfl, rfl⟩
  case round =>
    obtain ⟨n, hn, rfl, rfl⟩ := hrel
    obtain ⟨e1, e2, e3, e4⟩ := fit_step s n HM.out.2.1 (by have := HM.out; omega)
    by_cases hlt : n < m
    · have hc : decide (24 + 8 * ((n : Int) + 1) ≤ (s : Int) * 128) = true := decide_eq_true (by have := HM.out; omega)
      go_wp2
      go_roundw
      case rel => exact ⟨n + 1, by omega, by go_num, by first | rfl | trivial⟩
      case measure => exact fit_meas n m hlt
    · obtain rfl : m = n := by omega
      have hc : decide (24 + 8 * ((m : Int) + 1) ≤ (s : Int) * 128) = false := decide_eq_false (by have := HM.out; omega)
      go_wp2
      go_ret
      exact ⟨rfl, rfl⟩
theorem r5fit_any (s : Int) (w : World) : Calls Try.prog 13 #[.int .i64 s] w (fun e w' => e = .returned (.int .i64 (fitT s)) ∧ w' = w) := by
  unfold fitT sizB
  by_cases h1 : s < 1
  · have d1 : decide (s < 1) = true := decide_eq_true h1
    rw [decide_eq_false (show ¬ 1 ≤ s by omega), Bool.false_and, if_neg (by decide)]
    go_enter Try.func13, Try.ntmps13
    go_wp2
    go_ret
    exact ⟨rfl, rfl⟩
  by_cases h2 : 64 < s
  · have d1 : decide (s < 1) = false := decide_eq_false h1
    have d2 : decide (64 < s) = true := decide_eq_true h2
    rw [decide_eq_false (show ¬ s ≤ 64 by omega), Bool.and_false, if_neg (by decide)]
    go_enter Try.func13, Try.ntmps13
    go_wp2
    go_ret
    exact ⟨rfl, rfl⟩
  obtain ⟨s, rfl⟩ := Int.eq_ofNat_of_zero_le (show 0 ≤ s by omega)
  have h := r5fit_in s (by omega) (by omega) w
  rw [decide_eq_true (show 1 ≤ (s : Int) by omega), decide_eq_true (show (s : Int) ≤ 64 by omega), if_pos (by decide), show (s : Int) * 16 - 3 = ((16 * s - 3 : Nat) : Int) by omega]
  exact h

set_option maxHeartbeats 1000000 in
theorem chr_1 (f no k s : Int) (ao : Option Addr) (n c : Nat) (w : World) (h1 : decide (s < 1) = true) :
    Calls Try.prog 26 #[.agg #[.int .i64 f, .int .i64 no, .int .i64 k, .slice ao n c], .int .i64 s] w (GaveI w 50) := by
  go_enter Try.func26, Try.ntmps26
  go_wp2_with fail
  have c0 : (w.alloc (.cells #[.int .i64 f, .int .i64 no, .int .i64 k, .slice ao n c] 24)).cell? ⟨w.heap.size, 0, none⟩ = some (.int .i64 f) := new_cell w _ _ rfl
  have c1 : (w.alloc (.cells #[.int .i64 f, .int .i64 no, .int .i64 k, .slice ao n c] 24)).cell? ⟨w.heap.size, 1, none⟩ = some (.int .i64 no) := new_cell w _ _ rfl
  have c2 : (w.alloc (.cells #[.int .i64 f, .int .i64 no, .int .i64 k, .slice ao n c] 24)).cell? ⟨w.heap.size, 2, none⟩ = some (.int .i64 k) := new_cell w _ _ rfl
  have c3 : (w.alloc (.cells #[.int .i64 f, .int .i64 no, .int .i64 k, .slice ao n c] 24)).cell? ⟨w.heap.size, 3, none⟩ = some (.slice ao n c) := new_cell w _ _ rfl
  have hC1 : Chg (fun _ => False) w (w.alloc (.cells #[.int .i64 f, .int .i64 no, .int .i64 k, .slice ao n c] 24)) := (Chg.refl _ w).alloc _
  go_quiet (first
      | (go_at_call 13; refine Calls.quiet_of_same (hf _)))
  all_goals
    go_wp2
    go_ret
    exact ⟨rfl, hC1.drewN _⟩
set_option maxHeartbeats 1000000 in
theorem chr_2 (f no k s : Int) (ao : Option Addr) (n c : Nat) (w : World) (h1 : decide (s < 1) = false) (h2 : decide (64 < s) = true) :
    Calls Try.prog 26 #[.agg #[.int .i64 f, .int .i64 no, .int .i64 k, .slice ao n c], .int .i64 s] w (GaveI w 50) := by
  go_enter Try.func26, Try.ntmps26
  go_wp2_with fail
  have c0 : (w.alloc (.cells #[.int .i64 f, .int .i64 no, .int .i64 k, .slice ao n c] 24)).cell? ⟨w.heap.size, 0, none⟩ = some (.int .i64 f) := new_cell w _ _ rfl
  have c1 : (w.alloc (.cells #[.int .i64 f, .int .i64 no, .int .i64 k, .slice ao n c] 24)).cell? ⟨w.heap.size, 1, none⟩ = some (.int .i64 no) := new_cell w _ _ rfl
  have c2 : (w.alloc (.cells #[.int .i64 f, .int .i64 no, .int .i64 k, .slice ao n c] 24)).cell? ⟨w.heap.size, 2, none⟩ = some (.int .i64 k) := new_cell w _ _ rfl
  have c3 : (w.alloc (.cells #[.int .i64 f, .int .i64 no, .int .i64 k, .slice ao n c] 24)).cell? ⟨w.heap.size, 3, none⟩ = some (.slice ao n c) := new_cell w _ _ rfl
  have hC1 : Chg (fun _ => False) w (w.alloc (.cells #[.int .i64 f, .int .i64 no, .int .i64 k, .slice ao n c] 24)) := (Chg.refl _ w).alloc _
  go_quiet (first
      | (go_at_call 13; refine Calls.quiet_of_same (hf _)))
  all_goals
    go_wp2
    go_ret
    exact ⟨rfl, hC1.drewN _⟩
set_option maxHeartbeats 1000000 in
theorem chr_3 (f no k s : Int) (ao : Option Addr) (n c : Nat) (w : World) (h1 : decide (s < 1) = false) (h2 : decide (64 < s) = false) (h3 : decide (f < 1) = true) :
    Calls Try.prog 26 #[.agg #[.int .i64 f, .int .i64 no, .int .i64 k, .slice ao n c], .int .i64 s] w (GaveI w 50) := by
  go_enter Try.func26, Try.ntmps26
  go_wp2_with fail
  have c0 : (w.alloc (.cells #[.int .i64 f, .int .i64 no, .int .i64 k, .slice ao n c] 24)).cell? ⟨w.heap.size, 0, none⟩ = some (.int .i64 f) := new_cell w _ _ rfl
  have c1 : (w.alloc (.cells #[.int .i64 f, .int .i64 no, .int .i64 k, .slice ao n c] 24)).cell? ⟨w.heap.size, 1, none⟩ = some (.int .i64 no) := new_cell w _ _ rfl
  have c2 : (w.alloc (.cells #[.int .i64 f, .int .i64 no, .int .i64 k, .slice ao n c] 24)).cell? ⟨w.heap.size, 2, none⟩ = some (.int .i64 k) := new_cell w _ _ rfl
  have c3 : (w.alloc (.cells #[.int .i64 f, .int .i64 no, .int .i64 k, .slice ao n c] 24)).cell? ⟨w.heap.size, 3, none⟩ = some (.slice ao n c) := new_cell w _ _ rfl
  have hC1 : Chg (fun _ => False) w (w.alloc (.cells #[.int .i64 f, .int .i64 no, .int .i64 k, .slice ao n c] 24)) := (Chg.refl _ w).alloc _
  go_quiet (first
      | (go_at_call 13; refine Calls.quiet_of_same (hf _)))
  all_goals
    go_wp2
    go_ret
    exact ⟨rfl, hC1.drewN _⟩
set_option maxHeartbeats 1000000 in
theorem chr_4 (f no k s : Int) (ao : Option Addr) (n c : Nat) (w : World) (h1 : decide (s < 1) = false) (h2 : decide (64 < s) = false) (h3 : decide (f < 1) = false) (h4 : decide (no < 0) = true) :
    Calls Try.prog 26 #[.agg #[.int .i64 f, .int .i64 no, .int .i64 k, .slice ao n c], .int .i64 s] w (GaveI w 50) := by
  go_enter Try.func26, Try.ntmps26
  go_wp2_with fail
  have c0 : (w.alloc (.cells #[.int .i64 f, .int .i64 no, .int .i64 k, .slice ao n c] 24)).cell? ⟨w.heap.size, 0, none⟩ = some (.int .i64 f) := new_cell w _ _ rfl
  have c1 : (w.alloc (.cells #[.int .i64 f, .int .i64 no, .int .i64 k, .slice ao n c] 24)).cell? ⟨w.heap.size, 1, none⟩ = some (.int .i64 no) := new_cell w _ _ rfl
  have c2 : (w.alloc (.cells #[.int .i64 f, .int .i64 no, .int .i64 k, .slice ao n c] 24)).cell? ⟨w.heap.size, 2, none⟩ = some (.int .i64 k) := new_cell w _ _ rfl
  have c3 : (w.alloc (.cells #[.int .i64 f, .int .i64 no, .int .i64 k, .slice ao n c] 24)).cell? ⟨w.heap.size, 3, none⟩ = some (.slice ao n c) := new_cell w _ _ rfl
  have hC1 : Chg (fun _ => False) w (w.alloc (.cells #[.int .i64 f, .int .i64 no, .int .i64 k, .slice ao n c] 24)) := (Chg.refl _ w).alloc _
  go_quiet (first
      | (go_at_call 13; refine Calls.quiet_of_same (hf _)))
  all_goals
    go_wp2
    go_ret
    exact ⟨rfl, hC1.drewN _⟩
set_option maxHeartbeats 1000000 in
theorem chr_5 (f no k s : Int) (ao : Option Addr) (n c : Nat) (w : World) (h1 : decide (s < 1) = false) (h2 : decide (64 < s) = false) (h3 : decide (f < 1) = false) (h4 : decide (no < 0) = false) (h5 : decide (4096 ≤ no) = true) :
    Calls Try.prog 26 #[.agg #[.int .i64 f, .int .i64 no, .int .i64 k, .slice ao n c], .int .i64 s] w (GaveI w 50) := by
  go_enter Try.func26, Try.ntmps26
  go_wp2_with fail
  have c0 : (w.alloc (.cells #[.int .i64 f, .int .i64 no, .int .i64 k, .slice ao n c] 24)).cell? ⟨w.heap.size, 0, none⟩ = some (.int .i64 f) := new_cell w _ _ rfl
  have c1 : (w.alloc (.cells #[.int .i64 f, .int .i64 no, .int .i64 k, .slice ao n c] 24)).cell? ⟨w.heap.size, 1, none⟩ = some (.int .i64 no) := new_cell w _ _ rfl
  have c2 : (w.alloc (.cells #[.int .i64 f, .int .i64 no, .int .i64 k, .slice ao n c] 24)).cell? ⟨w.heap.size, 2, none⟩ = some (.int .i64 k) := new_cell w _ _ rfl
  have c3 : (w.alloc (.cells #[.int .i64 f, .int .i64 no, .int .i64 k, .slice ao n c] 24)).cell? ⟨w.heap.size, 3, none⟩ = some (.slice ao n c) := new_cell w _ _ rfl
  have hC1 : Chg (fun _ => False) w (w.alloc (.cells #[.int .i64 f, .int .i64 no, .int .i64 k, .slice ao n c] 24)) := (Chg.refl _ w).alloc _
  go_quiet (first
      | (go_at_call 13; refine Calls.quiet_of_same (hf _)))
  all_goals
    go_wp2
    go_ret
    exact ⟨rfl, hC1.drewN _⟩
set_option maxHeartbeats 1000000 in
theorem chr_6 (f no k s : Int) (ao : Option Addr) (n c : Nat) (w : World) (h1 : decide (s < 1) = false) (h2 : decide (64 < s) = false) (h3 : decide (f < 1) = false) (h4 : decide (no < 0) = false) (h5 : decide (4096 ≤ no) = false) (h6 : decide (k < 1) = true) :
    Calls Try.prog 26 #[.agg #[.int .i64 f, .int .i64 no, .int .i64 k, .slice ao n c], .int .i64 s] w (GaveI w 50) := by
  go_enter Try.func26, Try.ntmps26
  go_wp2_with fail
  have c0 : (w.alloc (.cells #[.int .i64 f, .int .i64 no, .int .i64 k, .slice ao n c] 24)).cell? ⟨w.heap.size, 0, none⟩ = some (.int .i64 f) := new_cell w _ _ rfl
  have c1 : (w.alloc (.cells #[.int .i64 f, .int .i64 no, .int .i64 k, .slice ao n c] 24)).cell? ⟨w.heap.size, 1, none⟩ = some (.int .i64 no) := new_cell w _ _ rfl
  have c2 : (w.alloc (.cells #[.int .i64 f, .int .i64 no, .int .i64 k, .slice ao n c] 24)).cell? ⟨w.heap.size, 2, none⟩ = some (.int .i64 k) := new_cell w _ _ rfl
  have c3 : (w.alloc (.cells #[.int .i64 f, .int .i64 no, .int .i64 k, .slice ao n c] 24)).cell? ⟨w.heap.size, 3, none⟩ = some (.slice ao n c) := new_cell w _ _ rfl
  have hC1 : Chg (fun _ => False) w (w.alloc (.cells #[.int .i64 f, .int .i64 no, .int .i64 k, .slice ao n c] 24)) := (Chg.refl _ w).alloc _
  go_quiet (first
      | (go_at_call 13; refine Calls.quiet_of_same (hf _)))
  all_goals
    go_wp2
    go_ret
    exact ⟨rfl, hC1.drewN _⟩
set_option maxHeartbeats 1000000 in
theorem chr_7 (f no k s : Int) (ao : Option Addr) (n c : Nat) (w : World) (h1 : decide (s < 1) = false) (h2 : decide (64 < s) = false) (h3 : decide (f < 1) = false) (h4 : decide (no < 0) = false) (h5 : decide (4096 ≤ no) = false) (h6 : decide (k < 1) = false) (h7 : decide (2 < k) = true) :
    Calls Try.prog 26 #[.agg #[.int .i64 f, .int .i64 no, .int .i64 k, .slice ao n c], .int .i64 s] w (GaveI w 50) := by
  go_enter Try.func26, Try.ntmps26
  go_wp2_with fail
  have c0 : (w.alloc (.cells #[.int .i64 f, .int .i64 no, .int .i64 k, .slice ao n c] 24)).cell? ⟨w.heap.size, 0, none⟩ = some (.int .i64 f) := new_cell w _ _ rfl
  have c1 : (w.alloc (.cells #[.int .i64 f, .int .i64 no, .int .i64 k, .slice ao n c] 24)).cell? ⟨w.heap.size, 1, none⟩ = some (.int .i64 no) := new_cell w _ _ rfl
  have c2 : (w.alloc (.cells #[.int .i64 f, .int .i64 no, .int .i64 k, .slice ao n c] 24)).cell? ⟨w.heap.size, 2, none⟩ = some (.int .i64 k) := new_cell w _ _ rfl
  have c3 : (w.alloc (.cells #[.int .i64 f, .int .i64 no, .int .i64 k, .slice ao n c] 24)).cell? ⟨w.heap.size, 3, none⟩ = some (.slice ao n c) := new_cell w _ _ rfl
  have hC1 : Chg (fun _ => False) w (w.alloc (.cells #[.int .i64 f, .int .i64 no, .int .i64 k, .slice ao n c] 24)) := (Chg.refl _ w).alloc _
  go_quiet (first
      | (go_at_call 13; refine Calls.quiet_of_same (hf _)))
  all_goals
    go_wp2
    go_ret
    exact ⟨rfl, hC1.drewN _⟩
set_option maxHeartbeats 1000000 in
theorem chr_8_1 (f no s F : Int) (ao : Option Addr) (n c : Nat) (w : World) (h1 : decide (s < 1) = false) (h2 : decide (64 < s) = false) (h3 : decide (f < 1) = false) (h4 : decide (no < 0) = false) (h5 : decide (4096 ≤ no) = false) (hf : ∀ w, Calls Try.prog 13 #[.int .i64 s] w (fun e w' => e = .returned (.int .i64 F) ∧ w' = w)) (h8 : decide (F < (n : Int)) = true) :
    Calls Try.prog 26 #[.agg #[.int .i64 f, .int .i64 no, .int .i64 1, .slice ao n c], .int .i64 s] w (GaveI w 50) := by
  go_enter Try.func26, Try.ntmps26
  go_wp2_with fail
  have c0 : (w.alloc (.cells #[.int .i64 f, .int .i64 no, .int .i64 1, .slice ao n c] 24)).cell? ⟨w.heap.size, 0, none⟩ = some (.int .i64 f) := new_cell w _ _ rfl
  have c1 : (w.alloc (.cells #[.int .i64 f, .int .i64 no, .int .i64 1, .slice ao n c] 24)).cell? ⟨w.heap.size, 1, none⟩ = some (.int .i64 no) := new_cell w _ _ rfl
  have c2 : (w.alloc (.cells #[.int .i64 f, .int .i64 no, .int .i64 1, .slice ao n c] 24)).cell? ⟨w.heap.size, 2, none⟩ = some (.int .i64 1) := new_cell w _ _ rfl
  have c3 : (w.alloc (.cells #[.int .i64 f, .int .i64 no, .int .i64 1, .slice ao n c] 24)).cell? ⟨w.heap.size, 3, none⟩ = some (.slice ao n c) := new_cell w _ _ rfl
  have hC1 : Chg (fun _ => False) w (w.alloc (.cells #[.int .i64 f, .int .i64 no, .int .i64 1, .slice ao n c] 24)) := (Chg.refl _ w).alloc _
  go_quiet (first
      | (go_at_call 13; refine Calls.quiet_of_same (hf _)))
  all_goals
    go_wp2
    go_ret
    exact ⟨rfl, hC1.drewN _⟩
set_option maxHeartbeats 1000000 in
theorem chr_8_2 (f no s F : Int) (ao : Option Addr) (n c : Nat) (w : World) (h1 : decide (s < 1) = false) (h2 : decide (64 < s) = false) (h3 : decide (f < 1) = false) (h4 : decide (no < 0) = false) (h5 : decide (4096 ≤ no) = false) (hf : ∀ w, Calls Try.prog 13 #[.int .i64 s] w (fun e w' => e = .returned (.int .i64 F) ∧ w' = w)) (h8 : decide (F < (n : Int)) = true) :
    Calls Try.prog 26 #[.agg #[.int .i64 f, .int .i64 no, .int .i64 2, .slice ao n c], .int .i64 s] w (GaveI w 50) := by
  go_enter Try.func26, Try.ntmps26
  go_wp2_with fail
  have c0 : (w.alloc (.cells #[.int .i64 f, .int .i64 no, .int .i64 2, .slice ao n c] 24)).cell? ⟨w.heap.size, 0, none⟩ = some (.int .i64 f) := new_cell w _ _ rfl
  have c1 : (w.alloc (.cells #[.int .i64 f, .int .i64 no, .int .i64 2, .slice ao n c] 24)).cell? ⟨w.heap.size, 1, none⟩ = some (.int .i64 no) := new_cell w _ _ rfl
  have c2 : (w.alloc (.cells #[.int .i64 f, .int .i64 no, .int .i64 2, .slice ao n c] 24)).cell? ⟨w.heap.size, 2, none⟩ = some (.int .i64 2) := new_cell w _ _ rfl
  have c3 : (w.alloc (.cells #[.int .i64 f, .int .i64 no, .int .i64 2, .slice ao n c] 24)).cell? ⟨w.heap.size, 3, none⟩ = some (.slice ao n c) := new_cell w _ _ rfl
  have hC1 : Chg (fun _ => False) w (w.alloc (.cells #[.int .i64 f, .int .i64 no, .int .i64 2, .slice ao n c] 24)) := (Chg.refl _ w).alloc _
  go_quiet (first
      | (go_at_call 13; refine Calls.quiet_of_same (hf _)))
  all_goals
    go_wp2
    go_ret
    exact ⟨rfl, hC1.drewN _⟩
set_option maxHeartbeats 1000000 in
theorem chr_9_1 (f no s F : Int) (ao : Option Addr) (n c : Nat) (w : World) (h1 : decide (s < 1) = false) (h2 : decide (64 < s) = false) (h3 : decide (f < 1) = false) (h4 : decide (no < 0) = false) (h5 : decide (4096 ≤ no) = false) (hf : ∀ w, Calls Try.prog 13 #[.int .i64 s] w (fun e w' => e = .returned (.int .i64 F) ∧ w' = w)) (h8 : decide (F < (n : Int)) = false) :
    Calls Try.prog 26 #[.agg #[.int .i64 f, .int .i64 no, .int .i64 1, .slice ao n c], .int .i64 s] w (GaveI w 0) := by
  go_enter Try.func26, Try.ntmps26
  go_wp2_with fail
  have c0 : (w.alloc (.cells #[.int .i64 f, .int .i64 no, .int .i64 1, .slice ao n c] 24)).cell? ⟨w.heap.size, 0, none⟩ = some (.int .i64 f) := new_cell w _ _ rfl
  have c1 : (w.alloc (.cells #[.int .i64 f, .int .i64 no, .int .i64 1, .slice ao n c] 24)).cell? ⟨w.heap.size, 1, none⟩ = some (.int .i64 no) := new_cell w _ _ rfl
  have c2 : (w.alloc (.cells #[.int .i64 f, .int .i64 no, .int .i64 1, .slice ao n c] 24)).cell? ⟨w.heap.size, 2, none⟩ = some (.int .i64 1) := new_cell w _ _ rfl
  have c3 : (w.alloc (.cells #[.int .i64 f, .int .i64 no, .int .i64 1, .slice ao n c] 24)).cell? ⟨w.heap.size, 3, none⟩ = some (.slice ao n c) := new_cell w _ _ rfl
  have hC1 : Chg (fun _ => False) w (w.alloc (.cells #[.int .i64 f, .int .i64 no, .int .i64 1, .slice ao n c] 24)) := (Chg.refl _ w).alloc _
  go_quiet (first
      | (go_at_call 13; refine Calls.quiet_of_same (hf _)))
  go_wp2
  go_loopw [5] (fun i wr => ∃ j : Nat, j = 0 ∧ i = .int .i64 j ∧ Chg (fun _ => False) w wr ∧ CellAt wr w.heap.size 2 (.int .i64 1) ∧ CellAt wr w.heap.size 3 (.slice ao n c)) (fun i _ => n - (intOf i).toNat)
  case atStart => exact ⟨0, rfl, rfl, hC1.drewN _, c2, c3⟩
  case round =>
    obtain ⟨j, rfl, rfl, hCr, r2, r3⟩ := hrel
    unfold CellAt at r2 r3
    by_cases hn : 0 < n
    · have hn' : (0 : Int) < (n : Int) := by omega
      go_wp2
      go_ret
      exact ⟨rfl, hCr⟩
    · obtain rfl : n = 0 := by omega
      go_wp2
      go_ret
      exact ⟨rfl, hCr⟩
end Go.Proofs.Ytccpmbonipfmpaa
