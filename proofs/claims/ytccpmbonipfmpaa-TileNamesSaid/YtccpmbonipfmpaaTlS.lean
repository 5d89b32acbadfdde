/- tile.Sound. -/
import Derived.Test.YtccpmbonipfmpaaTlH
namespace Go.Proofs.Ytccpmbonipfmpaa
open Go.RowKit

def soundB (xs : List UInt8) : Bool := openOk xs && (decide (xs.length % 128 = 0) && sizB ((xs.length / 128 : Nat) : Int))
theorem sound_seal (xs : List UInt8) (s : Nat) (h : (sealL xs).length = s * 128) (h1 : 1 ≤ s) (h2 : s ≤ 64) : soundB (sealL xs) = true := by
  unfold soundB sizB
  rw [open_seal, h, decide_eq_true (by omega), show s * 128 / 128 = s by omega, decide_eq_true (by omega), decide_eq_true (by omega)]
  rfl
theorem sound_no (ao : Option Addr) (n c : Nat) (w : World) (E : Int) (L : List UInt8) (hE : (E == 0) = false) (hop : Calls Try.prog 41 #[.slice ao n c] w (GaveO w L E)) : Calls Try.prog 18 #[.slice ao n c] w (GaveBo w false) := by
  go_enter Try.func18, Try.ntmps18
  go_wp2_with fail
  refine hop.mono ?_
  clear hop
  rintro e w1 ⟨v1, rfl, _, hC1⟩
  go_wp2
  go_ret
  exact ⟨rfl, hC1⟩
theorem sound_odd (ao : Option Addr) (n c : Nat) (w : World) (L : List UInt8) (hn : ¬ (n : Int) % 128 = 0) (hop : Calls Try.prog 41 #[.slice ao n c] w (GaveO w L 0)) : Calls Try.prog 18 #[.slice ao n c] w (GaveBo w false) := by
  have hn' : ((n : Int) % 128 == 0) = false := beq_eq_false_iff_ne.2 hn
  go_enter Try.func18, Try.ntmps18
  go_wp2_with fail
  refine hop.mono ?_
  clear hop
  rintro e w1 ⟨v1, rfl, _, hC1⟩
  go_wp2
  go_ret
  exact ⟨rfl, hC1⟩
theorem sound_even (ao : Option Addr) (n c q : Nat) (w : World) (L : List UInt8) (b : Bool) (hn : (n : Int) % 128 = 0) (hw : wrap64 ((n : Int) / 128) = (q : Int)) (hz : ∀ w, Calls Try.prog 32 #[.int .i64 (q : Int)] w (fun e w' => e = .returned (.bool b) ∧ w' = w)) (hop : Calls Try.prog 41 #[.slice ao n c] w (GaveO w L 0)) : Calls Try.prog 18 #[.slice ao n c] w (GaveBo w b) := by
  have hn' : ((n : Int) % 128 == 0) = true := beq_iff_eq.2 hn
  go_enter Try.func18, Try.ntmps18
  go_wp2_with fail
  refine hop.mono ?_
  clear hop
  rintro e w1 ⟨v1, rfl, _, hC1⟩
  go_wp2_with (go_at_call 32; (with_reducible refine (hz _).mono ?_); rintro e w2 ⟨rfl, rfl⟩)
  go_ret
  exact ⟨rfl, hC1⟩
theorem sound_any (v : Value) (xs : List UInt8) (w : World) (hS : Sl w v (xs.map B)) (hl : xs.length + 100 ≤ 140737488355328) : Calls Try.prog 18 #[v] w (GaveBo w (soundB xs)) := by
  have hop := open_any _ xs w hS hl
  obtain ⟨ao, c, rfl, _⟩ := hS.form
  rw [List.length_map] at hop ⊢
  unfold openE at hop
  unfold soundB
  cases ho : openOk xs with
  | false =>
    rw [ho, if_neg (by decide)] at hop
    rw [Bool.false_and]
    exact sound_no ao _ c w 20 _ rfl hop
  | true =>
    rw [ho, if_pos rfl] at hop
    rw [Bool.true_and]
    by_cases hn : xs.length % 128 = 0
    · rw [decide_eq_true hn, Bool.true_and]
      exact sound_even ao _ c (xs.length / 128) w _ _ (by omega) (w64 _ (by omega)) (tsized_any _) hop
    · rw [decide_eq_false hn, Bool.false_and]
      exact sound_odd ao _ c w _ (by omega) hop
end Go.Proofs.Ytccpmbonipfmpaa
