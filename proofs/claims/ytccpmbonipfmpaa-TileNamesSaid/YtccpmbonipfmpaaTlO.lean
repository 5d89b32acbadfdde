/- The document's Check of a tile, whole. -/
import Derived.Test.YtccpmbonipfmpaaTlN
import Derived.Test.YtccpmbonipfmpaaTlF
namespace Go.Proofs.Ytccpmbonipfmpaa
open Go.RowKit

theorem r5check_any (f no k s : Int) (v : Value) (l : List Int) (w : World) (hS : Sl w v (l.map I)) (hl : l.length ≤ 140737488355328) :
    Calls Try.prog 26 #[.agg #[.int .i64 f, .int .i64 no, .int .i64 k, v], .int .i64 s] w (GaveI w (checkE f no k l s)) := by
  obtain ⟨ao, c, rfl, _⟩ := hS.form
  rw [List.length_map] at hS ⊢
  have hft := r5fit_any s
  unfold checkE checkB
  by_cases h1 : s < 1
  · rw [show sizB s = false by unfold sizB; rw [decide_eq_false (show ¬ 1 ≤ s by omega), Bool.false_and], Bool.false_and, if_neg (by decide)]
    exact chr_1 f no k s ao _ c w (decide_eq_true h1)
  have d1 := decide_eq_false h1
  by_cases h2 : 64 < s
  · rw [show sizB s = false by unfold sizB; rw [decide_eq_false (show ¬ s ≤ 64 by omega), Bool.and_false], Bool.false_and, if_neg (by decide)]
    exact chr_2 f no k s ao _ c w d1 (decide_eq_true h2)
  have d2 := decide_eq_false h2
  rw [show sizB s = true by unfold sizB; rw [decide_eq_true (show 1 ≤ s by omega), decide_eq_true (show s ≤ 64 by omega), Bool.true_and], Bool.true_and]
  by_cases h3 : f < 1
  · rw [decide_eq_false (show ¬ 1 ≤ f by omega), Bool.false_and, if_neg (by decide)]
    exact chr_3 f no k s ao _ c w d1 d2 (decide_eq_true h3)
  have d3 := decide_eq_false h3
  rw [decide_eq_true (show 1 ≤ f by omega), Bool.true_and]
  by_cases h4 : no < 0
  · rw [decide_eq_false (show ¬ 0 ≤ no by omega), Bool.false_and, if_neg (by decide)]
    exact chr_4 f no k s ao _ c w d1 d2 d3 (decide_eq_true h4)
  have d4 := decide_eq_false h4
  rw [decide_eq_true (show 0 ≤ no by omega), Bool.true_and]
  by_cases h5 : 4096 ≤ no
  · rw [decide_eq_false (show ¬ no < 4096 by omega), Bool.false_and, if_neg (by decide)]
    exact chr_5 f no k s ao _ c w d1 d2 d3 d4 (decide_eq_true h5)
  have d5 := decide_eq_false h5
  rw [decide_eq_true (show no < 4096 by omega), Bool.true_and]
  unfold kindB
  by_cases k1 : k = 1
  · subst k1
    rw [if_pos rfl, Bool.true_and]
    by_cases h8 : fitT s < (l.length : Int)
    · rw [decide_eq_false (show ¬ (l.length : Int) ≤ fitT s by omega), if_neg (by decide)]
      exact chr_8_1 f no s _ ao _ c w d1 d2 d3 d4 d5 hft (decide_eq_true h8)
    · rw [decide_eq_true (show (l.length : Int) ≤ fitT s by omega), if_pos rfl]
      exact chr_9_1 f no s _ ao _ c w d1 d2 d3 d4 d5 hft (decide_eq_false h8)
  rw [if_neg k1]
  by_cases k2 : k = 2
  · subst k2
    rw [if_pos rfl]
    by_cases h8 : fitT s < (l.length : Int)
    · rw [decide_eq_false (show ¬ (l.length : Int) ≤ fitT s by omega), Bool.and_false, if_neg (by decide)]
      exact chr_8_2 f no s _ ao _ c w d1 d2 d3 d4 d5 hft (decide_eq_true h8)
    · rw [decide_eq_true (show (l.length : Int) ≤ fitT s by omega), Bool.and_true]
      exact chr_9_2 f no s _ ao _ c l w hS rfl hl d1 d2 d3 d4 d5 hft (decide_eq_false h8) _ rfl
  rw [if_neg k2, Bool.false_and, if_neg (by decide)]
  by_cases h6 : k < 1
  · exact chr_6 f no k s ao _ c w d1 d2 d3 d4 d5 (decide_eq_true h6)
  · exact chr_7 f no k s ao _ c w d1 d2 d3 d4 d5 (decide_eq_false h6) (decide_eq_true (by omega))
end Go.Proofs.Ytccpmbonipfmpaa
