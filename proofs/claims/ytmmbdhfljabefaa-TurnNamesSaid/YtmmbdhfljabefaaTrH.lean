/- turn: rotate's way, walked. -/
import Derived.Test.YtmmbdhfljabefaaTrG
import Derived.Deep.DeepCutAuto
namespace Go.Proofs.Ytmmbdhfljabefaa
open Go.RowKit Go.Shelf

/-- The amount by which the row of the i-th element is turned. -/
def rotRow (L : Ar) (m : Int) (i : Nat) : Int := L.e.getD (if L.s = [] then 0 else (i : Int) / m).toNat 0
def rotF (L : Ar) (s : List Int) (i : Nat) : Int := rotK ((i : Int) % rowN s) (rotRow L (rowN s) i) (rowN s)
def rotE (L : Ar) (s : List Int) : Int := if shB s && chkB L then (if L.s ≠ [] ∧ (L.s.length : Int) ≠ (s.length : Int) - 1 then 3 else if L.s ≠ [] ∧ L.s ≠ s.take (s.length - 1) then 4 else if L.k = 2 then 5 else 0) else 110
def rotW (L : Ar) (s : List Int) : Wy := if rotE L s = 0 then ⟨s, alongG s (rotF L s), 0⟩ else noW (rotE L s)
theorem rotW_no {L : Ar} {s : List Int} {n : Int} (h : rotE L s = n) (hn : n ≠ 0) : rotW L s = noW n := by
  unfold rotW
  rw [h, if_neg hn]
theorem prod_row {s : List Int} (h : s ≠ []) : prodL s = prodL (s.take (s.length - 1)) * rowN s := by
  obtain ⟨f, m, rfl⟩ : ∃ f m, s = f ++ [m] := by
    rcases List.eq_nil_or_concat s with h0 | ⟨f, m, h1⟩
    · exact absurd h0 h
    · exact ⟨f, m, by rw [h1, List.concat_eq_append]⟩
  simp [rowN, prodL_append, prodL]
/-- The row's amount is there. -/
theorem rot_has {L : Ar} {s : List Int} (hsh : shB s = true) (hck : chkB L = true) (hE : rotE L s = 0) (i : Nat) (hi : i < cnt s) : ∃ q : Nat, (if L.s = [] then 0 else (i : Int) / rowN s) = (q : Int) ∧ L.e[q]? = some (rotRow L (rowN s) i) := by
  obtain ⟨p1, p2, p3⟩ := ediv_lt_cnt hsh hi
  have hc := cnt_int s
  rw [cntN_ok hsh] at hc
  have hk := chkB_iff.1 hck
  have hq0 : 0 ≤ (if L.s = [] then 0 else (i : Int) / rowN s) := by
    split
    · exact Int.le_refl _
    · exact Int.ediv_nonneg (by omega) (by omega)
  obtain ⟨q, hq⟩ := Int.eq_ofNat_of_zero_le hq0
  refine ⟨q, hq, ?_⟩
  have hlt : q < L.e.length := by
    by_cases h0 : L.s = []
    · rw [if_pos h0] at hq
      have := hk.2.1
      rw [h0] at this
      simp [prodL] at this
      omega
    · rw [if_neg h0] at hq
      have h2 : L.s = s.take (s.length - 1) := by
        unfold rotE at hE
        rw [hsh, hck] at hE
        simp only [Bool.and_self, if_true] at hE
        split at hE
        · cases hE
        · split at hE
          · cases hE
          · rename_i h3
            by_cases h4 : L.s = s.take (s.length - 1)
            · exact h4
            · exact absurd ⟨h0, h4⟩ h3
      have h3 : s ≠ [] := fun e => by rw [e] at h2; exact h0 (by simpa using h2)
      have h4 := prod_row h3
      rw [← h2, hk.2.1] at h4
      have : (i : Int) / rowN s < L.e.length := Int.ediv_lt_of_lt_mul p1 (by omega)
      omega
  unfold rotRow
  rw [hq, Int.toNat_natCast, List.getD, List.getElem?_eq_getElem hlt]
  rfl
end Go.Proofs.Ytmmbdhfljabefaa
