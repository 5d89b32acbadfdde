/- tile.Encode, whole; two tiles the same. -/
import Derived.Test.YtccpmbonipfmpaaTlE
namespace Go.Proofs.Ytccpmbonipfmpaa
open Go.RowKit

def tileV (f no k : Int) (v : Value) : Value := .agg #[.int .i64 f, .int .i64 no, .int .i64 k, v]
def tileL (f no k : Int) (l : List Int) (s : Int) : List UInt8 := if checkB f no k l s then sealL (bodyL f no.toNat k.toNat l s.toNat) else []
theorem check_bounds {f no k : Int} {l : List Int} {s : Int} (h : checkB f no k l s = true) : (1 ≤ s ∧ s ≤ 64) ∧ 1 ≤ f ∧ (0 ≤ no ∧ no < 4096) ∧ (k = 1 ∨ k = 2) ∧ 8 * l.length + 24 ≤ s * 128 := by
  unfold checkB at h
  rw [Bool.and_eq_true, Bool.and_eq_true, Bool.and_eq_true, Bool.and_eq_true, Bool.and_eq_true] at h
  obtain ⟨h1, h2, h3, h4, h5, h6⟩ := h
  have h1' := h1
  unfold sizB at h1
  rw [Bool.and_eq_true] at h1
  have a1 := of_decide_eq_true h1.1
  have a2 := of_decide_eq_true h1.2
  have a3 := of_decide_eq_true h2
  have a4 := of_decide_eq_true h3
  have a5 := of_decide_eq_true h4
  have a6 := of_decide_eq_true h6
  unfold fitT at a6
  rw [if_pos h1'] at a6
  refine ⟨⟨a1, a2⟩, a3, ⟨a4, a5⟩, ?_, by omega⟩
  unfold kindB at h5
  by_cases k1 : k = 1
  · exact .inl k1
  · rw [if_neg k1] at h5
    by_cases k2 : k = 2
    · exact .inr k2
    · rw [if_neg k2] at h5; cases h5
theorem tencode_any (f no k s : Int) (v : Value) (l : List Int) (w : World) (hS : Sl w v (l.map I)) (hl : l.length ≤ 140737488355328) :
    Calls Try.prog 9 #[tileV f no k v, .int .i64 s] w (GaveBE w (tileL f no k l s) (checkE f no k l s)) := by
  unfold tileV tileL checkE
  have hc0 : ∀ w', Chg (fun _ => False) w w' → Calls Try.prog 11 #[.agg #[.int .i64 f, .int .i64 no, .int .i64 k, v], .int .i64 s] w' (GaveI w' (checkE f no k l s)) := fun w' hC => check_any f no k s v l w' (hS.fr hC) hl
  unfold checkE at hc0
  cases h : checkB f no k l s with
  | false =>
    rw [h] at hc0
    exact enc_no f no k s v w 50 (by decide) hc0
  | true =>
    rw [h] at hc0
    obtain ⟨⟨s1, s2⟩, _, ⟨n1, n2⟩, hk, hlen⟩ := check_bounds h
    obtain ⟨no, rfl⟩ := Int.eq_ofNat_of_zero_le n1
    obtain ⟨s, rfl⟩ := Int.eq_ofNat_of_zero_le (show 0 ≤ s by omega)
    obtain ⟨k, rfl⟩ := Int.eq_ofNat_of_zero_le (show 0 ≤ k by omega)
    exact enc_yes f no k s v l w hS (by omega) (by omega) (by omega) (by omega) (by omega) hc0
end Go.Proofs.Ytccpmbonipfmpaa
