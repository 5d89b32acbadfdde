/- tile.Check, way by way. -/
import Derived.Test.YtccpmbonipfmpaaTlA
import Derived.BigQuiet
namespace Go.Proofs.Ytccpmbonipfmpaa
open Go.RowKit

set_option maxHeartbeats 1000000 in
theorem chk_1_1 (f no s : Int) (ao : Option Addr) (n c : Nat) (w : World) (hs : ∀ w, Calls Try.prog 32 #[.int .i64 s] w (fun e w' => e = .returned (.bool false) ∧ w' = w)) :
    Calls Try.prog 11 #[.agg #[.int .i64 f, .int .i64 no, .int .i64 1, .slice ao n c], .int .i64 s] w (GaveI w 50) := by
  go_enter Try.func11, Try.ntmps11
  go_wp2_with fail
  have c0 : (w.alloc (.cells #[.int .i64 f, .int .i64 no, .int .i64 1, .slice ao n c] 24)).cell? ⟨w.heap.size, 0, none⟩ = some (.int .i64 f) := new_cell w _ _ rfl
  have c1 : (w.alloc (.cells #[.int .i64 f, .int .i64 no, .int .i64 1, .slice ao n c] 24)).cell? ⟨w.heap.size, 1, none⟩ = some (.int .i64 no) := new_cell w _ _ rfl
  have c3 : (w.alloc (.cells #[.int .i64 f, .int .i64 no, .int .i64 1, .slice ao n c] 24)).cell? ⟨w.heap.size, 3, none⟩ = some (.slice ao n c) := new_cell w _ _ rfl
  have hC1 : Chg (fun _ => False) w (w.alloc (.cells #[.int .i64 f, .int .i64 no, .int .i64 1, .slice ao n c] 24)) := (Chg.refl _ w).alloc _
  go_quiet (first
      | (go_at_call 32; refine Calls.quiet_of_same (hs _))
      | (go_at_call 12; refine Calls.quiet_of_same (hf _)))
  all_goals
    go_wp2
    go_ret
    exact ⟨rfl, hC1.drewN _⟩
set_option maxHeartbeats 1000000 in
theorem chk_2_1 (f no s : Int) (ao : Option Addr) (n c : Nat) (w : World) (hl : ∀ w', Chg (fun _ => False) w w' → Calls Try.prog 31 #[.slice ao n c] w' (GaveBo w' true)) (hs : ∀ w, Calls Try.prog 32 #[.int .i64 s] w (fun e w' => e = .returned (.bool false) ∧ w' = w)) :
    Calls Try.prog 11 #[.agg #[.int .i64 f, .int .i64 no, .int .i64 2, .slice ao n c], .int .i64 s] w (GaveI w 50) := by
  go_enter Try.func11, Try.ntmps11
  go_wp2_with fail
  refine (hl _ ((Chg.refl _ w).alloc _)).mono ?_
  rintro e w1 ⟨rfl, hC1⟩
  have c0 : w1.cell? ⟨w.heap.size, 0, none⟩ = some (.int .i64 f) := hC1.cell (new_cell w _ _ rfl) id
  have c1 : w1.cell? ⟨w.heap.size, 1, none⟩ = some (.int .i64 no) := hC1.cell (new_cell w _ _ rfl) id
  have c3 : w1.cell? ⟨w.heap.size, 3, none⟩ = some (.slice ao n c) := hC1.cell (new_cell w _ _ rfl) id
  replace hC1 := ((Chg.refl _ w).alloc _).tr hC1
  go_wp2_with fail
  go_quiet (first
      | (go_at_call 32; refine Calls.quiet_of_same (hs _))
      | (go_at_call 12; refine Calls.quiet_of_same (hf _)))
  all_goals
    go_wp2
    go_ret
    exact ⟨rfl, hC1.drewN _⟩
set_option maxHeartbeats 1000000 in
theorem chk_2f_1 (f no s : Int) (ao : Option Addr) (n c : Nat) (w : World) (hl : ∀ w', Chg (fun _ => False) w w' → Calls Try.prog 31 #[.slice ao n c] w' (GaveBo w' false)) (hs : ∀ w, Calls Try.prog 32 #[.int .i64 s] w (fun e w' => e = .returned (.bool false) ∧ w' = w)) :
    Calls Try.prog 11 #[.agg #[.int .i64 f, .int .i64 no, .int .i64 2, .slice ao n c], .int .i64 s] w (GaveI w 50) := by
  go_enter Try.func11, Try.ntmps11
  go_wp2_with fail
  refine (hl _ ((Chg.refl _ w).alloc _)).mono ?_
  rintro e w1 ⟨rfl, hC1⟩
  have c0 : w1.cell? ⟨w.heap.size, 0, none⟩ = some (.int .i64 f) := hC1.cell (new_cell w _ _ rfl) id
  have c1 : w1.cell? ⟨w.heap.size, 1, none⟩ = some (.int .i64 no) := hC1.cell (new_cell w _ _ rfl) id
  have c3 : w1.cell? ⟨w.heap.size, 3, none⟩ = some (.slice ao n c) := hC1.cell (new_cell w _ _ rfl) id
  replace hC1 := ((Chg.refl _ w).alloc _).tr hC1
  go_wp2_with fail
  go_quiet (first
      | (go_at_call 32; refine Calls.quiet_of_same (hs _))
      | (go_at_call 12; refine Calls.quiet_of_same (hf _)))
  all_goals
    go_wp2
    go_ret
    exact ⟨rfl, hC1.drewN _⟩
set_option maxHeartbeats 1000000 in
theorem chk_o_1 (f no k s : Int) (ao : Option Addr) (n c : Nat) (w : World) (k1 : (k == 1) = false) (k2 : (k == 2) = false) (hs : ∀ w, Calls Try.prog 32 #[.int .i64 s] w (fun e w' => e = .returned (.bool false) ∧ w' = w)) :
    Calls Try.prog 11 #[.agg #[.int .i64 f, .int .i64 no, .int .i64 k, .slice ao n c], .int .i64 s] w (GaveI w 50) := by
  go_enter Try.func11, Try.ntmps11
  go_wp2_with fail
  have c0 : (w.alloc (.cells #[.int .i64 f, .int .i64 no, .int .i64 k, .slice ao n c] 24)).cell? ⟨w.heap.size, 0, none⟩ = some (.int .i64 f) := new_cell w _ _ rfl
  have c1 : (w.alloc (.cells #[.int .i64 f, .int .i64 no, .int .i64 k, .slice ao n c] 24)).cell? ⟨w.heap.size, 1, none⟩ = some (.int .i64 no) := new_cell w _ _ rfl
  have c3 : (w.alloc (.cells #[.int .i64 f, .int .i64 no, .int .i64 k, .slice ao n c] 24)).cell? ⟨w.heap.size, 3, none⟩ = some (.slice ao n c) := new_cell w _ _ rfl
  have hC1 : Chg (fun _ => False) w (w.alloc (.cells #[.int .i64 f, .int .i64 no, .int .i64 k, .slice ao n c] 24)) := (Chg.refl _ w).alloc _
  go_quiet (first
      | (go_at_call 32; refine Calls.quiet_of_same (hs _))
      | (go_at_call 12; refine Calls.quiet_of_same (hf _)))
  all_goals
    go_wp2
    go_ret
    exact ⟨rfl, hC1.drewN _⟩
set_option maxHeartbeats 1000000 in
theorem chk_1_2 (f no s : Int) (ao : Option Addr) (n c : Nat) (w : World) (hs : ∀ w, Calls Try.prog 32 #[.int .i64 s] w (fun e w' => e = .returned (.bool true) ∧ w' = w)) (h2 : decide (f < 1) = true) :
    Calls Try.prog 11 #[.agg #[.int .i64 f, .int .i64 no, .int .i64 1, .slice ao n c], .int .i64 s] w (GaveI w 50) := by
  go_enter Try.func11, Try.ntmps11
  go_wp2_with fail
  have c0 : (w.alloc (.cells #[.int .i64 f, .int .i64 no, .int .i64 1, .slice ao n c] 24)).cell? ⟨w.heap.size, 0, none⟩ = some (.int .i64 f) := new_cell w _ _ rfl
  have c1 : (w.alloc (.cells #[.int .i64 f, .int .i64 no, .int .i64 1, .slice ao n c] 24)).cell? ⟨w.heap.size, 1, none⟩ = some (.int .i64 no) := new_cell w _ _ rfl
  have c3 : (w.alloc (.cells #[.int .i64 f, .int .i64 no, .int .i64 1, .slice ao n c] 24)).cell? ⟨w.heap.size, 3, none⟩ = some (.slice ao n c) := new_cell w _ _ rfl
  have hC1 : Chg (fun _ => False) w (w.alloc (.cells #[.int .i64 f, .int .i64 no, .int .i64 1, .slice ao n c] 24)) := (Chg.refl _ w).alloc _
  go_quiet (first
      | (go_at_call 32; refine Calls.quiet_of_same (hs _))
      | (go_at_call 12; refine Calls.quiet_of_same (hf _)))
  all_goals
    go_wp2
    go_ret
    exact ⟨rfl, hC1.drewN _⟩
set_option maxHeartbeats 1000000 in
theorem chk_2_2 (f no s : Int) (ao : Option Addr) (n c : Nat) (w : World) (hl : ∀ w', Chg (fun _ => False) w w' → Calls Try.prog 31 #[.slice ao n c] w' (GaveBo w' true)) (hs : ∀ w, Calls Try.prog 32 #[.int .i64 s] w (fun e w' => e = .returned (.bool true) ∧ w' = w)) (h2 : decide (f < 1) = true) :
    Calls Try.prog 11 #[.agg #[.int .i64 f, .int .i64 no, .int .i64 2, .slice ao n c], .int .i64 s] w (GaveI w 50) := by
  go_enter Try.func11, Try.ntmps11
  go_wp2_with fail
  refine (hl _ ((Chg.refl _ w).alloc _)).mono ?_
  rintro e w1 ⟨rfl, hC1⟩
  have c0 : w1.cell? ⟨w.heap.size, 0, none⟩ = some (.int .i64 f) := hC1.cell (new_cell w _ _ rfl) id
  have c1 : w1.cell? ⟨w.heap.size, 1, none⟩ = some (.int .i64 no) := hC1.cell (new_cell w _ _ rfl) id
  have c3 : w1.cell? ⟨w.heap.size, 3, none⟩ = some (.slice ao n c) := hC1.cell (new_cell w _ _ rfl) id
  replace hC1 := ((Chg.refl _ w).alloc _).tr hC1
  go_wp2_with fail
  go_quiet (first
      | (go_at_call 32; refine Calls.quiet_of_same (hs _))
      | (go_at_call 12; refine Calls.quiet_of_same (hf _)))
  all_goals
    go_wp2
    go_ret
    exact ⟨rfl, hC1.drewN _⟩
set_option maxHeartbeats 1000000 in
theorem chk_2f_2 (f no s : Int) (ao : Option Addr) (n c : Nat) (w : World) (hl : ∀ w', Chg (fun _ => False) w w' → Calls Try.prog 31 #[.slice ao n c] w' (GaveBo w' false)) (hs : ∀ w, Calls Try.prog 32 #[.int .i64 s] w (fun e w' => e = .returned (.bool true) ∧ w' = w)) (h2 : decide (f < 1) = true) :
    Calls Try.prog 11 #[.agg #[.int .i64 f, .int .i64 no, .int .i64 2, .slice ao n c], .int .i64 s] w (GaveI w 50) := by
  go_enter Try.func11, Try.ntmps11
  go_wp2_with fail
  refine (hl _ ((Chg.refl _ w).alloc _)).mono ?_
  rintro e w1 ⟨rfl, hC1⟩
  have c0 : w1.cell? ⟨w.heap.size, 0, none⟩ = some (.int .i64 f) := hC1.cell (new_cell w _ _ rfl) id
  have c1 : w1.cell? ⟨w.heap.size, 1, none⟩ = some (.int .i64 no) := hC1.cell (new_cell w _ _ rfl) id
  have c3 : w1.cell? ⟨w.heap.size, 3, none⟩ = some (.slice ao n c) := hC1.cell (new_cell w _ _ rfl) id
  replace hC1 := ((Chg.refl _ w).alloc _).tr hC1
  go_wp2_with fail
  go_quiet (first
      | (go_at_call 32; refine Calls.quiet_of_same (hs _))
      | (go_at_call 12; refine Calls.quiet_of_same (hf _)))
  all_goals
    go_wp2
    go_ret
    exact ⟨rfl, hC1.drewN _⟩
set_option maxHeartbeats 1000000 in
theorem chk_o_2 (f no k s : Int) (ao : Option Addr) (n c : Nat) (w : World) (k1 : (k == 1) = false) (k2 : (k == 2) = false) (hs : ∀ w, Calls Try.prog 32 #[.int .i64 s] w (fun e w' => e = .returned (.bool true) ∧ w' = w)) (h2 : decide (f < 1) = true) :
    Calls Try.prog 11 #[.agg #[.int .i64 f, .int .i64 no, .int .i64 k, .slice ao n c], .int .i64 s] w (GaveI w 50) := by
  go_enter Try.func11, Try.ntmps11
  go_wp2_with fail
  have c0 : (w.alloc (.cells #[.int .i64 f, .int .i64 no, .int .i64 k, .slice ao n c] 24)).cell? ⟨w.heap.size, 0, none⟩ = some (.int .i64 f) := new_cell w _ _ rfl
  have c1 : (w.alloc (.cells #[.int .i64 f, .int .i64 no, .int .i64 k, .slice ao n c] 24)).cell? ⟨w.heap.size, 1, none⟩ = some (.int .i64 no) := new_cell w _ _ rfl
  have c3 : (w.alloc (.cells #[.int .i64 f, .int .i64 no, .int .i64 k, .slice ao n c] 24)).cell? ⟨w.heap.size, 3, none⟩ = some (.slice ao n c) := new_cell w _ _ rfl
  have hC1 : Chg (fun _ => False) w (w.alloc (.cells #[.int .i64 f, .int .i64 no, .int .i64 k, .slice ao n c] 24)) := (Chg.refl _ w).alloc _
  go_quiet (first
      | (go_at_call 32; refine Calls.quiet_of_same (hs _))
      | (go_at_call 12; refine Calls.quiet_of_same (hf _)))
  all_goals
    go_wp2
    go_ret
    exact ⟨rfl, hC1.drewN _⟩
set_option maxHeartbeats 1000000 in
theorem chk_1_3 (f no s : Int) (ao : Option Addr) (n c : Nat) (w : World) (hs : ∀ w, Calls Try.prog 32 #[.int .i64 s] w (fun e w' => e = .returned (.bool true) ∧ w' = w)) (h2 : decide (f < 1) = false) (h3 : decide (no < 0) = true) :
    Calls Try.prog 11 #[.agg #[.int .i64 f, .int .i64 no, .int .i64 1, .slice ao n c], .int .i64 s] w (GaveI w 50) := by
  go_enter Try.func11, Try.ntmps11
  go_wp2_with fail
  have c0 : (w.alloc (.cells #[.int .i64 f, .int .i64 no, .int .i64 1, .slice ao n c] 24)).cell? ⟨w.heap.size, 0, none⟩ = some (.int .i64 f) := new_cell w _ _ rfl
  have c1 : (w.alloc (.cells #[.int .i64 f, .int .i64 no, .int .i64 1, .slice ao n c] 24)).cell? ⟨w.heap.size, 1, none⟩ = some (.int .i64 no) := new_cell w _ _ rfl
  have c3 : (w.alloc (.cells #[.int .i64 f, .int .i64 no, .int .i64 1, .slice ao n c] 24)).cell? ⟨w.heap.size, 3, none⟩ = some (.slice ao n c) := new_cell w _ _ rfl
  have hC1 : Chg (fun _ => False) w (w.alloc (.cells #[.int .i64 f, .int .i64 no, .int .i64 1, .slice ao n c] 24)) := (Chg.refl _ w).alloc _
  go_quiet (first
      | (go_at_call 32; refine Calls.quiet_of_same (hs _))
      | (go_at_call 12; refine Calls.quiet_of_same (hf _)))
  all_goals
    go_wp2
    go_ret
    exact ⟨rfl, hC1.drewN _⟩
set_option maxHeartbeats 1000000 in
theorem chk_2_3 (f no s : Int) (ao : Option Addr) (n c : Nat) (w : World) (hl : ∀ w', Chg (fun _ => False) w w' → Calls Try.prog 31 #[.slice ao n c] w' (GaveBo w' true)) (hs : ∀ w, Calls Try.prog 32 #[.int .i64 s] w (fun e w' => e = .returned (.bool true) ∧ w' = w)) (h2 : decide (f < 1) = false) (h3 : decide (no < 0) = true) :
    Calls Try.prog 11 #[.agg #[.int .i64 f, .int .i64 no, .int .i64 2, .slice ao n c], .int .i64 s] w (GaveI w 50) := by
  go_enter Try.func11, Try.ntmps11
  go_wp2_with fail
  refine (hl _ ((Chg.refl _ w).alloc _)).mono ?_
  rintro e w1 ⟨rfl, hC1⟩
  have c0 : w1.cell? ⟨w.heap.size, 0, none⟩ = some (.int .i64 f) := hC1.cell (new_cell w _ _ rfl) id
  have c1 : w1.cell? ⟨w.heap.size, 1, none⟩ = some (.int .i64 no) := hC1.cell (new_cell w _ _ rfl) id
  have c3 : w1.cell? ⟨w.heap.size, 3, none⟩ = some (.slice ao n c) := hC1.cell (new_cell w _ _ rfl) id
  replace hC1 := ((Chg.refl _ w).alloc _).tr hC1
  go_wp2_with fail
  go_quiet (first
      | (go_at_call 32; refine Calls.quiet_of_same (hs _))
      | (go_at_call 12; refine Calls.quiet_of_same (hf _)))
  all_goals
    go_wp2
    go_ret
    exact ⟨rfl, hC1.drewN _⟩
set_option maxHeartbeats 1000000 in
theorem chk_2f_3 (f no s : Int) (ao : Option Addr) (n c : Nat) (w : World) (hl : ∀ w', Chg (fun _ => False) w w' → Calls Try.prog 31 #[.slice ao n c] w' (GaveBo w' false)) (hs : ∀ w, Calls Try.prog 32 #[.int .i64 s] w (fun e w' => e = .returned (.bool true) ∧ w' = w)) (h2 : decide (f < 1) = false) (h3 : decide (no < 0) = true) :
    Calls Try.prog 11 #[.agg #[.int .i64 f, .int .i64 no, .int .i64 2, .slice ao n c], .int .i64 s] w (GaveI w 50) := by
  go_enter Try.func11, Try.ntmps11
  go_wp2_with fail
  refine (hl _ ((Chg.refl _ w).alloc _)).mono ?_
  rintro e w1 ⟨rfl, hC1⟩
  have c0 : w1.cell? ⟨w.heap.size, 0, none⟩ = some (.int .i64 f) := hC1.cell (new_cell w _ _ rfl) id
  have c1 : w1.cell? ⟨w.heap.size, 1, none⟩ = some (.int .i64 no) := hC1.cell (new_cell w _ _ rfl) id
  have c3 : w1.cell? ⟨w.heap.size, 3, none⟩ = some (.slice ao n c) := hC1.cell (new_cell w _ _ rfl) id
  replace hC1 := ((Chg.refl _ w).alloc _).tr hC1
  go_wp2_with fail
  go_quiet (first
      | (go_at_call 32; refine Calls.quiet_of_same (hs _))
      | (go_at_call 12; refine Calls.quiet_of_same (hf _)))
  all_goals
    go_wp2
    go_ret
    exact ⟨rfl, hC1.drewN _⟩
set_option maxHeartbeats 1000000 in
theorem chk_o_3 (f no k s : Int) (ao : Option Addr) (n c : Nat) (w : World) (k1 : (k == 1) = false) (k2 : (k == 2) = false) (hs : ∀ w, Calls Try.prog 32 #[.int .i64 s] w (fun e w' => e = .returned (.bool true) ∧ w' = w)) (h2 : decide (f < 1) = false) (h3 : decide (no < 0) = true) :
    Calls Try.prog 11 #[.agg #[.int .i64 f, .int .i64 no, .int .i64 k, .slice ao n c], .int .i64 s] w (GaveI w 50) := by
  go_enter Try.func11, Try.ntmps11
  go_wp2_with fail
  have c0 : (w.alloc (.cells #[.int .i64 f, .int .i64 no, .int .i64 k, .slice ao n c] 24)).cell? ⟨w.heap.size, 0, none⟩ = some (.int .i64 f) := new_cell w _ _ rfl
  have c1 : (w.alloc (.cells #[.int .i64 f, .int .i64 no, .int .i64 k, .slice ao n c] 24)).cell? ⟨w.heap.size, 1, none⟩ = some (.int .i64 no) := new_cell w _ _ rfl
  have c3 : (w.alloc (.cells #[.int .i64 f, .int .i64 no, .int .i64 k, .slice ao n c] 24)).cell? ⟨w.heap.size, 3, none⟩ = some (.slice ao n c) := new_cell w _ _ rfl
  have hC1 : Chg (fun _ => False) w (w.alloc (.cells #[.int .i64 f, .int .i64 no, .int .i64 k, .slice ao n c] 24)) := (Chg.refl _ w).alloc _
  go_quiet (first
      | (go_at_call 32; refine Calls.quiet_of_same (hs _))
      | (go_at_call 12; refine Calls.quiet_of_same (hf _)))
  all_goals
    go_wp2
    go_ret
    exact ⟨rfl, hC1.drewN _⟩
set_option maxHeartbeats 1000000 in
theorem chk_1_4 (f no s : Int) (ao : Option Addr) (n c : Nat) (w : World) (hs : ∀ w, Calls Try.prog 32 #[.int .i64 s] w (fun e w' => e = .returned (.bool true) ∧ w' = w)) (h2 : decide (f < 1) = false) (h3 : decide (no < 0) = false) (h4 : decide (4096 ≤ no) = true) :
    Calls Try.prog 11 #[.agg #[.int .i64 f, .int .i64 no, .int .i64 1, .slice ao n c], .int .i64 s] w (GaveI w 50) := by
  go_enter Try.func11, Try.ntmps11
  go_wp2_with fail
  have c0 : (w.alloc (.cells #[.int .i64 f, .int .i64 no, .int .i64 1, .slice ao n c] 24)).cell? ⟨w.heap.size, 0, none⟩ = some (.int .i64 f) := new_cell w _ _ rfl
  have c1 : (w.alloc (.cells #[.int .i64 f, .int .i64 no, .int .i64 1, .slice ao n c] 24)).cell? ⟨w.heap.size, 1, none⟩ = some (.int .i64 no) := new_cell w _ _ rfl
  have c3 : (w.alloc (.cells #[.int .i64 f, .int .i64 no, .int .i64 1, .slice ao n c] 24)).cell? ⟨w.heap.size, 3, none⟩ = some (.slice ao n c) := new_cell w _ _ rfl
  have hC1 : Chg (fun _ => False) w (w.alloc (.cells #[.int .i64 f, .int .i64 no, .int .i64 1, .slice ao n c] 24)) := (Chg.refl _ w).alloc _
  go_quiet (first
      | (go_at_call 32; refine Calls.quiet_of_same (hs _))
      | (go_at_call 12; refine Calls.quiet_of_same (hf _)))
  all_goals
    go_wp2
    go_ret
    exact ⟨rfl, hC1.drewN _⟩
set_option maxHeartbeats 1000000 in
theorem chk_2_4 (f no s : Int) (ao : Option Addr) (n c : Nat) (w : World) (hl : ∀ w', Chg (fun _ => False) w w' → Calls Try.prog 31 #[.slice ao n c] w' (GaveBo w' true)) (hs : ∀ w, Calls Try.prog 32 #[.int .i64 s] w (fun e w' => e = .returned (.bool true) ∧ w' = w)) (h2 : decide (f < 1) = false) (h3 : decide (no < 0) = false) (h4 : decide (4096 ≤ no) = true) :
    Calls Try.prog 11 #[.agg #[.int .i64 f, .int .i64 no, .int .i64 2, .slice ao n c], .int .i64 s] w (GaveI w 50) := by
  go_enter Try.func11, Try.ntmps11
  go_wp2_with fail
  refine (hl _ ((Chg.refl _ w).alloc _)).mono ?_
  rintro e w1 ⟨rfl, hC1⟩
  have c0 : w1.cell? ⟨w.heap.size, 0, none⟩ = some (.int .i64 f) := hC1.cell (new_cell w _ _ rfl) id
  have c1 : w1.cell? ⟨w.heap.size, 1, none⟩ = some (.int .i64 no) := hC1.cell (new_cell w _ _ rfl) id
  have c3 : w1.cell? ⟨w.heap.size, 3, none⟩ = some (.slice ao n c) := hC1.cell (new_cell w _ _ rfl) id
  replace hC1 := ((Chg.refl _ w).alloc _).tr hC1
  go_wp2_with fail
  go_quiet (first
      | (go_at_call 32; refine Calls.quiet_of_same (hs _))
      | (go_at_call 12; refine Calls.quiet_of_same (hf _)))
  all_goals
    go_wp2
    go_ret
    exact ⟨rfl, hC1.drewN _⟩
set_option maxHeartbeats 1000000 in
theorem chk_2f_4 (f no s : Int) (ao : Option Addr) (n c : Nat) (w : World) (hl : ∀ w', Chg (fun _ => False) w w' → Calls Try.prog 31 #[.slice ao n c] w' (GaveBo w' false)) (hs : ∀ w, Calls Try.prog 32 #[.int .i64 s] w (fun e w' => e = .returned (.bool true) ∧ w' = w)) (h2 : decide (f < 1) = false) (h3 : decide (no < 0) = false) (h4 : decide (4096 ≤ no) = true) :
    Calls Try.prog 11 #[.agg #[.int .i64 f, .int .i64 no, .int .i64 2, .slice ao n c], .int .i64 s] w (GaveI w 50) := by
  go_enter Try.func11, Try.ntmps11
  go_wp2_with fail
  refine (hl _ ((Chg.refl _ w).alloc _)).mono ?_
  rintro e w1 ⟨rfl, hC1⟩
  have c0 : w1.cell? ⟨w.heap.size, 0, none⟩ = some (.int .i64 f) := hC1.cell (new_cell w _ _ rfl) id
  have c1 : w1.cell? ⟨w.heap.size, 1, none⟩ = some (.int .i64 no) := hC1.cell (new_cell w _ _ rfl) id
  have c3 : w1.cell? ⟨w.heap.size, 3, none⟩ = some (.slice ao n c) := hC1.cell (new_cell w _ _ rfl) id
  replace hC1 := ((Chg.refl _ w).alloc _).tr hC1
  go_wp2_with fail
  go_quiet (first
      | (go_at_call 32; refine Calls.quiet_of_same (hs _))
      | (go_at_call 12; refine Calls.quiet_of_same (hf _)))
  all_goals
    go_wp2
    go_ret
    exact ⟨rfl, hC1.drewN _⟩
set_option maxHeartbeats 1000000 in
theorem chk_o_4 (f no k s : Int) (ao : Option Addr) (n c : Nat) (w : World) (k1 : (k == 1) = false) (k2 : (k == 2) = false) (hs : ∀ w, Calls Try.prog 32 #[.int .i64 s] w (fun e w' => e = .returned (.bool true) ∧ w' = w)) (h2 : decide (f < 1) = false) (h3 : decide (no < 0) = false) (h4 : decide (4096 ≤ no) = true) :
    Calls Try.prog 11 #[.agg #[.int .i64 f, .int .i64 no, .int .i64 k, .slice ao n c], .int .i64 s] w (GaveI w 50) := by
  go_enter Try.func11, Try.ntmps11
  go_wp2_with fail
  have c0 : (w.alloc (.cells #[.int .i64 f, .int .i64 no, .int .i64 k, .slice ao n c] 24)).cell? ⟨w.heap.size, 0, none⟩ = some (.int .i64 f) := new_cell w _ _ rfl
  have c1 : (w.alloc (.cells #[.int .i64 f, .int .i64 no, .int .i64 k, .slice ao n c] 24)).cell? ⟨w.heap.size, 1, none⟩ = some (.int .i64 no) := new_cell w _ _ rfl
  have c3 : (w.alloc (.cells #[.int .i64 f, .int .i64 no, .int .i64 k, .slice ao n c] 24)).cell? ⟨w.heap.size, 3, none⟩ = some (.slice ao n c) := new_cell w _ _ rfl
  have hC1 : Chg (fun _ => False) w (w.alloc (.cells #[.int .i64 f, .int .i64 no, .int .i64 k, .slice ao n c] 24)) := (Chg.refl _ w).alloc _
  go_quiet (first
      | (go_at_call 32; refine Calls.quiet_of_same (hs _))
      | (go_at_call 12; refine Calls.quiet_of_same (hf _)))
  all_goals
    go_wp2
    go_ret
    exact ⟨rfl, hC1.drewN _⟩
set_option maxHeartbeats 1000000 in
theorem chk_2_5 (f no s : Int) (ao : Option Addr) (n c : Nat) (w : World) (hl : ∀ w', Chg (fun _ => False) w w' → Calls Try.prog 31 #[.slice ao n c] w' (GaveBo w' false)) (hs : ∀ w, Calls Try.prog 32 #[.int .i64 s] w (fun e w' => e = .returned (.bool true) ∧ w' = w)) (h2 : decide (f < 1) = false) (h3 : decide (no < 0) = false) (h4 : decide (4096 ≤ no) = false) :
    Calls Try.prog 11 #[.agg #[.int .i64 f, .int .i64 no, .int .i64 2, .slice ao n c], .int .i64 s] w (GaveI w 50) := by
  go_enter Try.func11, Try.ntmps11
  go_wp2_with fail
  refine (hl _ ((Chg.refl _ w).alloc _)).mono ?_
  rintro e w1 ⟨rfl, hC1⟩
  have c0 : w1.cell? ⟨w.heap.size, 0, none⟩ = some (.int .i64 f) := hC1.cell (new_cell w _ _ rfl) id
  have c1 : w1.cell? ⟨w.heap.size, 1, none⟩ = some (.int .i64 no) := hC1.cell (new_cell w _ _ rfl) id
  have c3 : w1.cell? ⟨w.heap.size, 3, none⟩ = some (.slice ao n c) := hC1.cell (new_cell w _ _ rfl) id
  replace hC1 := ((Chg.refl _ w).alloc _).tr hC1
  go_wp2_with fail
  go_quiet (first
      | (go_at_call 32; refine Calls.quiet_of_same (hs _))
      | (go_at_call 12; refine Calls.quiet_of_same (hf _)))
  all_goals
    go_wp2
    go_ret
    exact ⟨rfl, hC1.drewN _⟩
set_option maxHeartbeats 1000000 in
theorem chk_o_5 (f no k s : Int) (ao : Option Addr) (n c : Nat) (w : World) (k1 : (k == 1) = false) (k2 : (k == 2) = false) (hs : ∀ w, Calls Try.prog 32 #[.int .i64 s] w (fun e w' => e = .returned (.bool true) ∧ w' = w)) (h2 : decide (f < 1) = false) (h3 : decide (no < 0) = false) (h4 : decide (4096 ≤ no) = false) :
    Calls Try.prog 11 #[.agg #[.int .i64 f, .int .i64 no, .int .i64 k, .slice ao n c], .int .i64 s] w (GaveI w 50) := by
  go_enter Try.func11, Try.ntmps11
  go_wp2_with fail
  have c0 : (w.alloc (.cells #[.int .i64 f, .int .i64 no, .int .i64 k, .slice ao n c] 24)).cell? ⟨w.heap.size, 0, none⟩ = some (.int .i64 f) := new_cell w _ _ rfl
  have c1 : (w.alloc (.cells #[.int .i64 f, .int .i64 no, .int .i64 k, .slice ao n c] 24)).cell? ⟨w.heap.size, 1, none⟩ = some (.int .i64 no) := new_cell w _ _ rfl
  have c3 : (w.alloc (.cells #[.int .i64 f, .int .i64 no, .int .i64 k, .slice ao n c] 24)).cell? ⟨w.heap.size, 3, none⟩ = some (.slice ao n c) := new_cell w _ _ rfl
  have hC1 : Chg (fun _ => False) w (w.alloc (.cells #[.int .i64 f, .int .i64 no, .int .i64 k, .slice ao n c] 24)) := (Chg.refl _ w).alloc _
  go_quiet (first
      | (go_at_call 32; refine Calls.quiet_of_same (hs _))
      | (go_at_call 12; refine Calls.quiet_of_same (hf _)))
  all_goals
    go_wp2
    go_ret
    exact ⟨rfl, hC1.drewN _⟩
set_option maxHeartbeats 1000000 in
theorem chk_1_6 (f no s F : Int) (ao : Option Addr) (n c : Nat) (w : World) (hs : ∀ w, Calls Try.prog 32 #[.int .i64 s] w (fun e w' => e = .returned (.bool true) ∧ w' = w)) (h2 : decide (f < 1) = false) (h3 : decide (no < 0) = false) (h4 : decide (4096 ≤ no) = false) (hf : ∀ w, Calls Try.prog 12 #[.int .i64 s] w (fun e w' => e = .returned (.int .i64 F) ∧ w' = w)) (h6 : decide (F < (n : Int)) = true) :
    Calls Try.prog 11 #[.agg #[.int .i64 f, .int .i64 no, .int .i64 1, .slice ao n c], .int .i64 s] w (GaveI w 50) := by
  go_enter Try.func11, Try.ntmps11
  go_wp2_with fail
  have c0 : (w.alloc (.cells #[.int .i64 f, .int .i64 no, .int .i64 1, .slice ao n c] 24)).cell? ⟨w.heap.size, 0, none⟩ = some (.int .i64 f) := new_cell w _ _ rfl
  have c1 : (w.alloc (.cells #[.int .i64 f, .int .i64 no, .int .i64 1, .slice ao n c] 24)).cell? ⟨w.heap.size, 1, none⟩ = some (.int .i64 no) := new_cell w _ _ rfl
  have c3 : (w.alloc (.cells #[.int .i64 f, .int .i64 no, .int .i64 1, .slice ao n c] 24)).cell? ⟨w.heap.size, 3, none⟩ = some (.slice ao n c) := new_cell w _ _ rfl
  have hC1 : Chg (fun _ => False) w (w.alloc (.cells #[.int .i64 f, .int .i64 no, .int .i64 1, .slice ao n c] 24)) := (Chg.refl _ w).alloc _
  go_quiet (first
      | (go_at_call 32; refine Calls.quiet_of_same (hs _))
      | (go_at_call 12; refine Calls.quiet_of_same (hf _)))
  all_goals
    go_wp2
    go_ret
    exact ⟨rfl, hC1.drewN _⟩
set_option maxHeartbeats 1000000 in
theorem chk_2_6 (f no s F : Int) (ao : Option Addr) (n c : Nat) (w : World) (hl : ∀ w', Chg (fun _ => False) w w' → Calls Try.prog 31 #[.slice ao n c] w' (GaveBo w' true)) (hs : ∀ w, Calls Try.prog 32 #[.int .i64 s] w (fun e w' => e = .returned (.bool true) ∧ w' = w)) (h2 : decide (f < 1) = false) (h3 : decide (no < 0) = false) (h4 : decide (4096 ≤ no) = false) (hf : ∀ w, Calls Try.prog 12 #[.int .i64 s] w (fun e w' => e = .returned (.int .i64 F) ∧ w' = w)) (h6 : decide (F < (n : Int)) = true) :
    Calls Try.prog 11 #[.agg #[.int .i64 f, .int .i64 no, .int .i64 2, .slice ao n c], .int .i64 s] w (GaveI w 50) := by
  go_enter Try.func11, Try.ntmps11
  go_wp2_with fail
  refine (hl _ ((Chg.refl _ w).alloc _)).mono ?_
  rintro e w1 ⟨rfl, hC1⟩
  have c0 : w1.cell? ⟨w.heap.size, 0, none⟩ = some (.int .i64 f) := hC1.cell (new_cell w _ _ rfl) id
  have c1 : w1.cell? ⟨w.heap.size, 1, none⟩ = some (.int .i64 no) := hC1.cell (new_cell w _ _ rfl) id
  have c3 : w1.cell? ⟨w.heap.size, 3, none⟩ = some (.slice ao n c) := hC1.cell (new_cell w _ _ rfl) id
  replace hC1 := ((Chg.refl _ w).alloc _).tr hC1
  go_wp2_with fail
  go_quiet (first
      | (go_at_call 32; refine Calls.quiet_of_same (hs _))
      | (go_at_call 12; refine Calls.quiet_of_same (hf _)))
  all_goals
    go_wp2
    go_ret
    exact ⟨rfl, hC1.drewN _⟩
set_option maxHeartbeats 1000000 in
theorem chk_1_7 (f no s F : Int) (ao : Option Addr) (n c : Nat) (w : World) (hs : ∀ w, Calls Try.prog 32 #[.int .i64 s] w (fun e w' => e = .returned (.bool true) ∧ w' = w)) (h2 : decide (f < 1) = false) (h3 : decide (no < 0) = false) (h4 : decide (4096 ≤ no) = false) (hf : ∀ w, Calls Try.prog 12 #[.int .i64 s] w (fun e w' => e = .returned (.int .i64 F) ∧ w' = w)) (h6 : decide (F < (n : Int)) = false) :
    Calls Try.prog 11 #[.agg #[.int .i64 f, .int .i64 no, .int .i64 1, .slice ao n c], .int .i64 s] w (GaveI w 0) := by
  go_enter Try.func11, Try.ntmps11
  go_wp2_with fail
  have c0 : (w.alloc (.cells #[.int .i64 f, .int .i64 no, .int .i64 1, .slice ao n c] 24)).cell? ⟨w.heap.size, 0, none⟩ = some (.int .i64 f) := new_cell w _ _ rfl
  have c1 : (w.alloc (.cells #[.int .i64 f, .int .i64 no, .int .i64 1, .slice ao n c] 24)).cell? ⟨w.heap.size, 1, none⟩ = some (.int .i64 no) := new_cell w _ _ rfl
  have c3 : (w.alloc (.cells #[.int .i64 f, .int .i64 no, .int .i64 1, .slice ao n c] 24)).cell? ⟨w.heap.size, 3, none⟩ = some (.slice ao n c) := new_cell w _ _ rfl
  have hC1 : Chg (fun _ => False) w (w.alloc (.cells #[.int .i64 f, .int .i64 no, .int .i64 1, .slice ao n c] 24)) := (Chg.refl _ w).alloc _
  go_quiet (first
      | (go_at_call 32; refine Calls.quiet_of_same (hs _))
      | (go_at_call 12; refine Calls.quiet_of_same (hf _)))
  all_goals
    go_wp2
    go_ret
    exact ⟨rfl, hC1.drewN _⟩
set_option maxHeartbeats 1000000 in
theorem chk_2_7 (f no s F : Int) (ao : Option Addr) (n c : Nat) (w : World) (hl : ∀ w', Chg (fun _ => False) w w' → Calls Try.prog 31 #[.slice ao n c] w' (GaveBo w' true)) (hs : ∀ w, Calls Try.prog 32 #[.int .i64 s] w (fun e w' => e = .returned (.bool true) ∧ w' = w)) (h2 : decide (f < 1) = false) (h3 : decide (no < 0) = false) (h4 : decide (4096 ≤ no) = false) (hf : ∀ w, Calls Try.prog 12 #[.int .i64 s] w (fun e w' => e = .returned (.int .i64 F) ∧ w' = w)) (h6 : decide (F < (n : Int)) = false) :
    Calls Try.prog 11 #[.agg #[.int .i64 f, .int .i64 no, .int .i64 2, .slice ao n c], .int .i64 s] w (GaveI w 0) := by
  go_enter Try.func11, Try.ntmps11
  go_wp2_with fail
  refine (hl _ ((Chg.refl _ w).alloc _)).mono ?_
  rintro e w1 ⟨rfl, hC1⟩
  have c0 : w1.cell? ⟨w.heap.size, 0, none⟩ = some (.int .i64 f) := hC1.cell (new_cell w _ _ rfl) id
  have c1 : w1.cell? ⟨w.heap.size, 1, none⟩ = some (.int .i64 no) := hC1.cell (new_cell w _ _ rfl) id
  have c3 : w1.cell? ⟨w.heap.size, 3, none⟩ = some (.slice ao n c) := hC1.cell (new_cell w _ _ rfl) id
  replace hC1 := ((Chg.refl _ w).alloc _).tr hC1
  go_wp2_with fail
  go_quiet (first
      | (go_at_call 32; refine Calls.quiet_of_same (hs _))
      | (go_at_call 12; refine Calls.quiet_of_same (hf _)))
  all_goals
    go_wp2
    go_ret
    exact ⟨rfl, hC1.drewN _⟩
end Go.Proofs.Ytccpmbonipfmpaa
