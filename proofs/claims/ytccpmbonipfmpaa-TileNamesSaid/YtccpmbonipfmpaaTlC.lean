/- tile.Check. -/
import Derived.Test.YtccpmbonipfmpaaTlB
namespace Go.Proofs.Ytccpmbonipfmpaa
open Go.RowKit

def kindB (k : Int) (l : List Int) : Bool := if k = 1 then true else if k = 2 then okL l else false
/-- Whether a tile may be. -/
def checkB (f no k : Int) (l : List Int) (s : Int) : Bool := sizB s && (decide (1 ≤ f) && (decide (0 ≤ no) && (decide (no < 4096) && (kindB k l && decide ((l.length : Int) ≤ fitT s)))))
def checkE (f no k : Int) (l : List Int) (s : Int) : Int := if checkB f no k l s then 0 else 50
theorem check_any (f no k s : Int) (v : Value) (l : List Int) (w : World) (hS : Sl w v (l.map I)) (hl : l.length ≤ 140737488355328) :
    Calls Try.prog 11 #[.agg #[.int .i64 f, .int .i64 no, .int .i64 k, v], .int .i64 s] w (GaveI w (checkE f no k l s)) := by
  obtain ⟨ao, c, rfl, _⟩ := hS.form
  rw [List.length_map] at hS ⊢
  have hsz := tsized_any s
  have hft := tfit_any s
  have hlt : ∀ w', Chg (fun _ => False) w w' → Calls Try.prog 31 #[.slice ao l.length c] w' (GaveBo w' (okL l)) := fun w' hC => letters_any _ l w' (hS.fr hC) hl
  unfold checkE checkB
  cases h1 : sizB s with
  | false =>
    rw [h1] at hsz
    rw [Bool.false_and, if_neg (by decide)]
    by_cases k1 : k = 1
    · subst k1; exact chk_1_1 f no s ao _ c w hsz
    by_cases k2 : k = 2
    · subst k2
      cases ho : okL l with
      | true => rw [ho] at hlt; exact chk_2_1 f no s ao _ c w hlt hsz
      | false => rw [ho] at hlt; exact chk_2f_1 f no s ao _ c w hlt hsz
    exact chk_o_1 f no k s ao _ c w (beq_eq_false_iff_ne.2 k1) (beq_eq_false_iff_ne.2 k2) hsz
  | true =>
    rw [h1] at hsz
    rw [Bool.true_and]
    by_cases h2 : f < 1
    · rw [decide_eq_false (show ¬ 1 ≤ f by omega), Bool.false_and, if_neg (by decide)]
      have d2 := decide_eq_true h2
      by_cases k1 : k = 1
      · subst k1; exact chk_1_2 f no s ao _ c w hsz d2
      by_cases k2 : k = 2
      · subst k2
        cases ho : okL l with
        | true => rw [ho] at hlt; exact chk_2_2 f no s ao _ c w hlt hsz d2
        | false => rw [ho] at hlt; exact chk_2f_2 f no s ao _ c w hlt hsz d2
      exact chk_o_2 f no k s ao _ c w (beq_eq_false_iff_ne.2 k1) (beq_eq_false_iff_ne.2 k2) hsz d2
    have d2 := decide_eq_false h2
    rw [decide_eq_true (show 1 ≤ f by omega), Bool.true_and]
    by_cases h3 : no < 0
    · rw [decide_eq_false (show ¬ 0 ≤ no by omega), Bool.false_and, if_neg (by decide)]
      have d3 := decide_eq_true h3
      by_cases k1 : k = 1
      · subst k1; exact chk_1_3 f no s ao _ c w hsz d2 d3
      by_cases k2 : k = 2
      · subst k2
        cases ho : okL l with
        | true => rw [ho] at hlt; exact chk_2_3 f no s ao _ c w hlt hsz d2 d3
        | false => rw [ho] at hlt; exact chk_2f_3 f no s ao _ c w hlt hsz d2 d3
      exact chk_o_3 f no k s ao _ c w (beq_eq_false_iff_ne.2 k1) (beq_eq_false_iff_ne.2 k2) hsz d2 d3
    have d3 := decide_eq_false h3
    rw [decide_eq_true (show 0 ≤ no by omega), Bool.true_and]
    by_cases h4 : 4096 ≤ no
    · rw [decide_eq_false (show ¬ no < 4096 by omega), Bool.false_and, if_neg (by decide)]
      have d4 := decide_eq_true h4
      by_cases k1 : k = 1
      · subst k1; exact chk_1_4 f no s ao _ c w hsz d2 d3 d4
      by_cases k2 : k = 2
      · subst k2
        cases ho : okL l with
        | true => rw [ho] at hlt; exact chk_2_4 f no s ao _ c w hlt hsz d2 d3 d4
        | false => rw [ho] at hlt; exact chk_2f_4 f no s ao _ c w hlt hsz d2 d3 d4
      exact chk_o_4 f no k s ao _ c w (beq_eq_false_iff_ne.2 k1) (beq_eq_false_iff_ne.2 k2) hsz d2 d3 d4
    have d4 := decide_eq_false h4
    rw [decide_eq_true (show no < 4096 by omega), Bool.true_and]
    unfold kindB
    by_cases k1 : k = 1
    · subst k1
      rw [if_pos rfl, Bool.true_and]
      by_cases h6 : fitT s < (l.length : Int)
      · rw [decide_eq_false (show ¬ (l.length : Int) ≤ fitT s by omega), if_neg (by decide)]
        exact chk_1_6 f no s _ ao _ c w hsz d2 d3 d4 hft (decide_eq_true h6)
      · rw [decide_eq_true (show (l.length : Int) ≤ fitT s by omega), if_pos rfl]
        exact chk_1_7 f no s _ ao _ c w hsz d2 d3 d4 hft (decide_eq_false h6)
    rw [if_neg k1]
    by_cases k2 : k = 2
    · subst k2
      rw [if_pos rfl]
      cases ho : okL l with
      | false =>
        rw [ho] at hlt
        rw [Bool.false_and, if_neg (by decide)]
        exact chk_2_5 f no s ao _ c w hlt hsz d2 d3 d4
      | true =>
        rw [ho] at hlt
        rw [Bool.true_and]
        by_cases h6 : fitT s < (l.length : Int)
        · rw [decide_eq_false (show ¬ (l.length : Int) ≤ fitT s by omega), if_neg (by decide)]
          exact chk_2_6 f no s _ ao _ c w hlt hsz d2 d3 d4 hft (decide_eq_true h6)
        · rw [decide_eq_true (show (l.length : Int) ≤ fitT s by omega), if_pos rfl]
          exact chk_2_7 f no s _ ao _ c w hlt hsz d2 d3 d4 hft (decide_eq_false h6)
    rw [if_neg k2, Bool.false_and, if_neg (by decide)]
    exact chk_o_5 f no k s ao _ c w (beq_eq_false_iff_ne.2 k1) (beq_eq_false_iff_ne.2 k2) hsz d2 d3 d4
end Go.Proofs.Ytccpmbonipfmpaa
