/- Tiles: whether one may be. -/
import Derived.Test.YtccpmbonipfmpaaRef1
import Derived.Test.YtccpmbonipfmpaaCrcS
namespace Go.Proofs.Ytccpmbonipfmpaa
open Go.RowKit

def I (n : Int) : Value := .int .i64 n
def GaveBo (w : World) (b : Bool) (e : Ending) (w' : World) : Prop := e = .returned (.bool b) ∧ Chg (fun _ => False) w w'
def GaveI (w : World) (n : Int) (e : Ending) (w' : World) : Prop := e = .returned (.int .i64 n) ∧ Chg (fun _ => False) w w'
def sizB (s : Int) : Bool := decide (1 ≤ s) && decide (s ≤ 64)
def fitT (s : Int) : Int := if sizB s then s * 16 - 3 else 0
theorem tsized_any (s : Int) (w : World) : Calls Try.prog 32 #[.int .i64 s] w (fun e w' => e = .returned (.bool (sizB s)) ∧ w' = w) := by
  unfold sizB
  by_cases h : 1 ≤ s
  · have h1 : decide (1 ≤ s) = true := decide_eq_true h
    rw [h1]
    go_enter Try.func32, Try.ntmps32
    go_wp2
    go_ret
    exact ⟨by simp, rfl⟩
  · have h1 : decide (1 ≤ s) = false := decide_eq_false h
    rw [h1]
    clear h
    go_enter Try.func32, Try.ntmps32
    go_wp2
    go_ret
    exact ⟨by simp, rfl⟩
theorem tfit_any (s : Int) (w : World) : Calls Try.prog 12 #[.int .i64 s] w (fun e w' => e = .returned (.int .i64 (fitT s)) ∧ w' = w) := by
  have h := tsized_any s
  unfold fitT
  cases hz : sizB s with
  | false =>
    rw [hz] at h
    clear hz
    go_enter Try.func12, Try.ntmps12
    go_wp2_with (go_at_call 32; (with_reducible refine (h _).mono ?_); rintro e w1 ⟨rfl, rfl⟩)
    go_ret
    exact ⟨rfl, rfl⟩
  | true =>
    rw [hz] at h
    unfold sizB at hz
    rw [Bool.and_eq_true] at hz
    have h1 := of_decide_eq_true hz.1
    have h2 := of_decide_eq_true hz.2
    have e1 : IntKind.i64.wrap (s * 128) = s * 128 := IntWalk.i64_in _ (by omega)
    have e2 : IntKind.i64.wrap (s * 128 - 24) = s * 128 - 24 := IntWalk.i64_in _ (by omega)
    have e3 : Int.tdiv (s * 128 - 24) 8 = s * 16 - 3 := by rw [Int.tdiv_eq_ediv_of_nonneg (by omega)]; omega
    have e4 : (s * 128 - 24) / 8 = s * 16 - 3 := by omega
    have e5 : IntKind.i64.wrap (s * 16 - 3) = s * 16 - 3 := IntWalk.i64_in _ (by omega)
    have e6 : wrap64 (s * 16 - 3) = s * 16 - 3 := by rw [show wrap64 (s * 16 - 3) = IntKind.i64.wrap (s * 16 - 3) by rw [IntKind.wrap_i64, wrap64]]; exact e5
    rw [if_pos rfl]
    clear hz h1 h2
    go_enter Try.func12, Try.ntmps12
    go_wp2_with (go_at_call 32; (with_reducible refine (h _).mono ?_); rintro e w1 ⟨rfl, rfl⟩)
    try rw [e6]
    go_ret
    exact ⟨rfl, rfl⟩
def badN (n : Int) : Bool := decide (n < 0) || decide (1114111 < n)
theorem letter_any (n : Int) (w : World) : Calls Try.prog 48 #[.int .i64 n] w (fun e w' => e = .returned (.bool (badN n)) ∧ w' = w) := by
  unfold badN
  by_cases h : n < 0
  · have h1 : decide (n < 0) = true := decide_eq_true h
    rw [h1]
    clear h
    go_enter Try.func48, Try.ntmps48
    go_wp2
    go_ret
    exact ⟨by simp, rfl⟩
  · have h1 : decide (n < 0) = false := decide_eq_false h
    rw [h1]
    clear h
    go_enter Try.func48, Try.ntmps48
    go_wp2
    go_ret
    exact ⟨by simp, rfl⟩
set_option maxHeartbeats 400000 in
theorem index_any (v : Value) (xs : List Int) (w : World) (hS : Sl w v (xs.map I)) (hl : xs.length ≤ 140737488355328) :
    Calls Try.prog 56 #[v, .func (.func 48) #[] #[]] w (fun e w' => ∃ r : Int, e = .returned (.int .i64 r) ∧ (decide (0 ≤ r) = xs.any badN) ∧ w' = w) := by
  obtain ⟨ao, c, hv, g1, g2, g3⟩ := hS.form
  have HS := Lib.hid hS
  rw [List.length_map] at g1 hv
  subst hv
  clear hS g3
  go_enter Try.func56, Try.ntmps56
  go_wp2
  go_loopw [8] (fun i wr => ∃ k : Nat, k ≤ xs.length ∧ i = .int .i64 k ∧ (xs.take k).any badN = false ∧ wr = w) (fun i _ => xs.length - (intOf i).toNat)
  case atStart => exact ⟨0, Nat.zero_le _, rfl, rfl, rfl⟩
  case round =>
    obtain ⟨k, hk, rfl, hbad, rfl⟩ := hrel
    have HB := Lib.hid hbad
    clear hbad
    by_cases hlt : k < xs.length
    · obtain ⟨b, o, c', e1, hcell⟩ := HS.out.at (j := k) (by simpa using hlt)
      injection e1 with e1 e2 e3
      subst e1
      replace hcell : wr.cell? ⟨b, o + k, none⟩ = some (.int .i64 xs[k]) := by rw [hcell]; simp [I]
      obtain ⟨x, hx⟩ : ∃ x, xs[k] = x := ⟨_, rfl⟩
      have HT := Lib.hid (show xs.take (k + 1) = xs.take k ++ [x] by rw [List.take_succ_eq_append_getElem hlt, hx])
      have HM := Lib.hid (show x ∈ xs by rw [← hx]; exact List.getElem_mem hlt)
      rw [hx] at hcell
      have hlet := letter_any x
      have hk2 : (k : Int) < (xs.length : Int) := by omega
      clear e2 e3 hx
      cases hb : badN x with
      | true =>
        rw [hb] at hlet
        have HBX := Lib.hid hb
        clear hb
        go_wp2_with (go_at_call 48; (with_reducible refine (hlet _).mono ?_); rintro e w' ⟨rfl, rfl⟩)
        go_ret
        refine ⟨k, rfl, ?_, rfl⟩
        rw [decide_eq_true (by omega), eq_comm, List.any_eq_true]
        exact ⟨x, HM.out, HBX.out⟩
      | false =>
        rw [hb] at hlet
        have HBX := Lib.hid hb
        clear hb
        go_wp2_with (go_at_call 48; (with_reducible refine (hlet _).mono ?_); rintro e w' ⟨rfl, rfl⟩)
        go_roundw
        case rel => exact ⟨k + 1, by omega, by go_num, by rw [HT.out, List.any_append, HB.out]; simp [HBX.out], by first | rfl | trivial⟩
        case measure => first | (simp [intOf]; done) | (simp [intOf]; omega)
    · obtain rfl : k = xs.length := by omega
      go_wp2
      go_ret
      refine ⟨-1, rfl, ?_, rfl⟩
      have := HB.out
      rw [List.take_length] at this
      rw [this]
      rfl
theorem contains_any (v : Value) (xs : List Int) (w : World) (hS : Sl w v (xs.map I)) (hl : xs.length ≤ 140737488355328) :
    Calls Try.prog 47 #[v, .func (.func 48) #[] #[]] w (fun e w' => e = .returned (.bool (xs.any badN)) ∧ w' = w) := by
  have h := index_any v xs w hS hl
  go_enter Try.func47, Try.ntmps47
  go_wp2_with fail
  refine h.mono ?_
  rintro e w' ⟨r, rfl, hr, rfl⟩
  go_wp2
  go_ret
  exact ⟨by rw [← hr]; rfl, rfl⟩
def okL (xs : List Int) : Bool := !xs.any badN
theorem letters_any (v : Value) (xs : List Int) (w : World) (hS : Sl w v (xs.map I)) (hl : xs.length ≤ 140737488355328) : Calls Try.prog 31 #[v] w (GaveBo w (okL xs)) := by
  have h := contains_any v xs w hS hl
  unfold okL
  generalize xs.any badN = b at *
  go_enter Try.func31, Try.ntmps31
  go_wp2_with fail
  refine h.mono ?_
  rintro e w' ⟨rfl, rfl⟩
  go_wp2
  go_ret
  exact ⟨rfl, Chg.refl _ _⟩
end Go.Proofs.Ytccpmbonipfmpaa
