/- The document's Check of a tile of letters. -/
import Derived.Test.YtccpmbonipfmpaaTlM
namespace Go.Proofs.Ytccpmbonipfmpaa
open Go.RowKit

theorem chr_step (l : List Int) (j : Nat) (x : Int) (hx : l[j]? = some x) (h : (l.take j).any badN = false) : (badN x = false → (l.take (j + 1)).any badN = false) ∧ (badN x = true → okL l = false) := by
  constructor
  · intro hb
    rw [List.take_add_one, hx, List.any_append, h]
    simp [hb]
  · intro hb
    unfold okL
    rw [Bool.not_eq_false', List.any_eq_true]
    exact ⟨x, List.mem_of_getElem? hx, hb⟩
set_option maxHeartbeats 1000000 in
theorem chr_9_2 (f no s F : Int) (ao : Option Addr) (n c : Nat) (l : List Int) (w : World) (hS : Sl w (.slice ao n c) (l.map I)) (hln : l.length = n) (hn5 : n ≤ 140737488355328) (h1 : decide (s < 1) = false) (h2 : decide (64 < s) = false) (h3 : decide (f < 1) = false) (h4 : decide (no < 0) = false) (h5 : decide (4096 ≤ no) = false) (hf : ∀ w, Calls Try.prog 13 #[.int .i64 s] w (fun e w' => e = .returned (.int .i64 F) ∧ w' = w)) (h8 : decide (F < (n : Int)) = false) (R : Int) (hR : R = if okL l then 0 else 50) :
    Calls Try.prog 26 #[.agg #[.int .i64 f, .int .i64 no, .int .i64 2, .slice ao n c], .int .i64 s] w (GaveI w R) := by
  have HR := Lib.hid hR
  clear hR
  have HS := Lib.hid hS
  have HL := Lib.hid hln
  have HB := Lib.hid hn5
  clear hS hln hn5
  go_enter Try.func26, Try.ntmps26
  go_wp2_with fail
  have c0 : (w.alloc (.cells #[.int .i64 f, .int .i64 no, .int .i64 2, .slice ao n c] 24)).cell? ⟨w.heap.size, 0, none⟩ = some (.int .i64 f) := new_cell w _ _ rfl
  have c1 : (w.alloc (.cells #[.int .i64 f, .int .i64 no, .int .i64 2, .slice ao n c] 24)).cell? ⟨w.heap.size, 1, none⟩ = some (.int .i64 no) := new_cell w _ _ rfl
  have c2 : (w.alloc (.cells #[.int .i64 f, .int .i64 no, .int .i64 2, .slice ao n c] 24)).cell? ⟨w.heap.size, 2, none⟩ = some (.int .i64 2) := new_cell w _ _ rfl
  have c3 : (w.alloc (.cells #[.int .i64 f, .int .i64 no, .int .i64 2, .slice ao n c] 24)).cell? ⟨w.heap.size, 3, none⟩ = some (.slice ao n c) := new_cell w _ _ rfl
  have hC1 : Chg (fun _ => False) w (w.alloc (.cells #[.int .i64 f, .int .i64 no, .int .i64 2, .slice ao n c] 24)) := (Chg.refl _ w).alloc _
  go_quiet (first
      | (go_at_call 13; refine Calls.quiet_of_same (hf _)))
  clear hf h1 h2 h3 h4 h5 h8 c0 c1
  go_wp2
  go_loopw [5] (fun i wr => ∃ j : Nat, j ≤ n ∧ i = .int .i64 j ∧ NoBad l j ∧ Chg (fun _ => False) w wr ∧ CellAt wr w.heap.size 2 (.int .i64 2) ∧ CellAt wr w.heap.size 3 (.slice ao n c)) (fun i _ => n - (intOf i).toNat)
  case atStart => exact ⟨0, Nat.zero_le _, rfl, rfl, hC1.drewN _, c2, c3⟩
  case round =>
    obtain ⟨j, hj, rfl, hbad, hCr, r2, r3⟩ := hrel
    unfold CellAt at r2 r3
    unfold NoBad at hbad
    by_cases hlt : j < n
    · have hj2 : (j : Int) < (n : Int) := by omega
      obtain ⟨x, hx⟩ : ∃ x, l[j]? = some x := ⟨_, List.getElem?_eq_getElem (by rw [HL.out]; exact hlt)⟩
      have HST := Lib.hid (chr_step l j x hx hbad)
      obtain ⟨b, o, c', e1, hcell⟩ := (HS.out.fr hCr).cells j (I x) (by rw [List.getElem?_map, hx]; rfl)
      injection e1 with e1 e2 e3
      clear e2 e3
      subst e1
      unfold I at hcell
      have hkw : IntKind.i64.wrap ((j : Int) + 1) = (j : Int) + 1 := IntWalk.i64_in _ (by have := HB.out; omega)
      clear hx hbad
      by_cases d1 : x < 0
      · have d1' : decide (x < 0) = true := decide_eq_true d1
        have hb : badN x = true := by unfold badN; rw [d1']; rfl
        obtain rfl : R = 50 := by rw [HR.out, HST.out.2 hb, if_neg (by decide)]
        clear hb d1
        go_wp2
        go_ret
        exact ⟨rfl, hCr⟩
      · have d1' : decide (x < 0) = false := decide_eq_false d1
        by_cases d2 : 1114111 < x
        · have d2' : decide (1114111 < x) = true := decide_eq_true d2
          have hb : badN x = true := by unfold badN; rw [d1', d2']; rfl
          obtain rfl : R = 50 := by rw [HR.out, HST.out.2 hb, if_neg (by decide)]
          clear hb d1 d2
          go_wp2
          go_ret
          exact ⟨rfl, hCr⟩
        · have d2' : decide (1114111 < x) = false := decide_eq_false d2
          have hb : badN x = false := by unfold badN; rw [d1', d2']; rfl
          have HN := Lib.hid (HST.out.1 hb)
          clear hb d1 d2
          go_wp2
          go_roundw
          case rel => exact ⟨j + 1, by omega, by go_num, HN.out, hCr, r2, r3⟩
          case measure => exact fit_meas j n hlt
    · obtain rfl : n = j := by omega
      have hok : okL l = true := by
        unfold okL
        rw [List.take_of_length_le (by rw [HL.out]; exact Nat.le_refl _)] at hbad
        rw [hbad]
        rfl
      obtain rfl : R = 0 := by rw [HR.out, hok, if_pos rfl]
      clear hok hbad
      go_wp2
      go_ret
      exact ⟨rfl, hCr⟩
end Go.Proofs.Ytccpmbonipfmpaa
