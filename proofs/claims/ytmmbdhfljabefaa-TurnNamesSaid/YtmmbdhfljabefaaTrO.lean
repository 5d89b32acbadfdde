/- turn: permute's way, plainly. -/
import Derived.Test.YtmmbdhfljabefaaTrN
import Derived.Test.YtmmbdhfljabefaaArL
namespace Go.Proofs.Ytmmbdhfljabefaa
open Go.RowKit Go.Shelf

/-- A list of axes, from 1 on, as places from 0 on. -/
def axesP (e : List Int) : List Nat := e.map (fun x => (x - 1).toNat)
/-- Whether each axis is told. -/
def allB (e : List Int) : Bool := (List.range e.length).all (fun (i : Nat) => decide (((i : Int) + 1) ∈ e))
theorem allB_iff {e : List Int} : allB e = true ↔ ∀ i : Nat, i < e.length → ((i : Int) + 1) ∈ e := by
  simp [allB]
theorem axes_perm {e : List Int} (h : allB e = true) : (axesP e).Perm (List.range e.length) ∧ (∀ x ∈ e, 1 ≤ x ∧ x ≤ e.length) := by
  have hb := allB_iff.1 h
  have hq : (e.map (fun (x : Int) => if 1 ≤ x then (x - 1).toNat else e.length)).Perm (List.range e.length) := by
    refine range_perm_all e.length _ (fun i hi => ?_) (by simp)
    refine List.mem_map.2 ⟨_, hb i hi, ?_⟩
    rw [if_pos (by omega)]
    omega
  have hx : ∀ x ∈ e, 1 ≤ x ∧ x ≤ e.length := fun x hm => by
    have h1 := List.mem_range.1 (hq.mem_iff.1 (List.mem_map.2 ⟨x, hm, rfl⟩))
    split at h1
    · omega
    · exact absurd h1 (Nat.lt_irrefl _)
  refine ⟨?_, hx⟩
  have : axesP e = e.map (fun (x : Int) => if 1 ≤ x then (x - 1).toNat else e.length) := by
    refine List.map_congr_left (fun x hm => ?_)
    rw [if_pos (hx x hm).1]
  rw [this]
  exact hq
theorem axes_cast {e : List Int} (h : allB e = true) : (axesP e).map (fun (a : Nat) => (a : Int)) = e.map (fun x => x - 1) := by
  unfold axesP
  rw [List.map_map]
  refine List.map_congr_left (fun x hm => ?_)
  have := ((axes_perm h).2 x hm).1
  simp only [Function.comp]
  omega
def perE (L : Ar) (s : List Int) : Int := if shB s then (if lstE L ≠ 0 then lstE L else if L.e.length ≠ s.length then 4 else if allB L.e then 0 else 5) else 110
def perW (L : Ar) (s : List Int) : Wy := if perE L s = 0 then ⟨outL s (axesP L.e), axG s (axesP L.e), 0⟩ else noW (perE L s)
theorem perW_no {L : Ar} {s : List Int} {n : Int} (h : perE L s = n) (hn : n ≠ 0) : perW L s = noW n := by
  unfold perW
  rw [h, if_neg hn]
theorem perE_ok {L : Ar} {s : List Int} (h : perE L s = 0) : shB s = true ∧ lstE L = 0 ∧ L.e.length = s.length ∧ allB L.e = true := by
  unfold perE at h
  split at h
  · rename_i h1
    split at h
    · rename_i h2; exact absurd h h2
    · rename_i h2
      split at h
      · cases h
      · rename_i h3
        split at h
        · rename_i h4
          exact ⟨h1, by omega, by omega, h4⟩
        · cases h
  · cases h
end Go.Proofs.Ytmmbdhfljabefaa
