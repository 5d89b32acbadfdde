/- The document's rotate, walked. -/
import Derived.Test.YtmmbdhfljabefaaTrF
import Derived.Test.YtmmbdhfljabefaaTrI
import Derived.Test.YtmmbdhfljabefaaTuV
import Derived.Test.YtmmbdhfljabefaaTwA
import Derived.BigRegion
namespace Go.Proofs.Ytmmbdhfljabefaa
open Go.RowKit Go.Shelf

theorem mod_t {n m t : Int} (hm : 0 < m) (ht : Int.tmod n m = t) : (-m < t ∧ t < m) ∧ n % m = if t < 0 then t + m else t := by
  have h1 := Int.mul_tdiv_add_tmod n m
  have h2 : -m < t ∧ t < m := by
    rw [← ht]
    exact ⟨Int.lt_tmod_of_pos n hm, Int.tmod_lt_of_pos n hm⟩
  rw [ht] at h1
  have h3 : n % m = t % m := by
    rw [← h1, Int.add_comm, Int.add_mul_emod_self_left]
  refine ⟨h2, ?_⟩
  rw [h3]
  by_cases h : t < 0
  · rw [if_pos h]
    have : t % m = (t + m) % m := by rw [Int.add_emod_right]
    rw [this, Int.emod_eq_of_lt (by omega) (by omega)]
  · rw [if_neg h, Int.emod_eq_of_lt (by omega) (by omega)]
theorem modulo_any (n m : Int) (w : World) (hm : 0 < m) (hm2 : m ≤ 4096) : Calls Try.prog 64 #[.int .i64 n, .int .i64 m] w (fun e w' => e = .returned (.int .i64 (n % m)) ∧ w = w') := by
  obtain ⟨t, ht⟩ : ∃ t, Int.tmod n m = t := ⟨_, rfl⟩
  obtain ⟨⟨h1, h2⟩, h3⟩ := mod_t hm ht
  have hm0 : ¬ m = 0 := by omega
  by_cases hlt : t < 0
  · rw [if_pos hlt] at h3
    have hw : IntKind.i64.wrap (t + m) = t + m := IntWalk.i64_in _ (by omega)
    have H3 := Lib.hid h3
    clear h3
    go_enter Try.func64, Try.ntmps64
    go_wp2
    go_ret
    exact ⟨by rw [H3.out]; rfl, rfl⟩
  · rw [if_neg hlt] at h3
    have H3 := Lib.hid h3
    clear h3
    go_enter Try.func64, Try.ntmps64
    go_wp2
    go_ret
    exact ⟨by rw [H3.out]; rfl, rfl⟩
/-- A place, its last number another one. -/
theorem last_pl {s : List Int} (hsh : shB s = true) (i : Nat) (hi : i < cnt s) {y : Int} (h0 : 0 ≤ y) (h1 : y < rowN s) (hs0 : s ≠ []) : plN s ((atL s i).set (s.length - 1) y) = (i : Int) / rowN s * rowN s + y := by
  have hs := shB_iff.1 hsh
  have hc := cnt_int s
  rw [cntN_ok hsh] at hc
  have hpos := pos_of_prod (s := s) (fun l hl => (hs.2.1 l hl).1) (by omega)
  rcases List.eq_nil_or_concat s with rfl | ⟨f, m, rfl⟩
  · exact absurd rfl hs0
  · rw [List.concat_eq_append] at *
    have hr : rowN (f ++ [m]) = m := by simp [rowN]
    have hm : 0 < m := hpos m (by simp)
    rw [hr] at h1 ⊢
    have e : (atL (f ++ [m]) i).set ((f ++ [m]).length - 1) y = atL f ((i : Int) / m) ++ [y] := by
      rw [atL_last f m i (by omega), List.set_append_right _ _ (by rw [atL_length]; simp)]
      simp [atL_length]
    obtain ⟨g1, g2⟩ := pl_last (f := f) (m := m) (i := (i : Int)) (y := y) hpos (by omega) (by omega) h0 h1
    rw [e, plN_ok (by unfold plB; rw [hsh, g1]; rfl), g2]
/-- Where the document's rotate brings the i-th element from. -/
def rotPP (L : Ar) (s : List Int) (i : Nat) : List Int := if s = [] then [] else (atL s i).set (s.length - 1) (rotF L s i)
theorem rotPP_eq {L : Ar} {s : List Int} (hsh : shB s = true) : tabG (cnt s) (fun i => (0, plN s (rotPP L s i))) = alongG s (rotF L s) := tabG_congr (fun i hi => by
  obtain ⟨p1, _, _⟩ := ediv_lt_cnt hsh hi
  have f0 : 0 ≤ rotF L s i := Int.emod_nonneg _ (by omega)
  have f1 : rotF L s i < rowN s := Int.emod_lt_of_pos _ p1
  by_cases hs0 : s = []
  · subst hs0
    have hc := cnt_int []
    rw [cntN_ok hsh] at hc
    have hi0 : i = 0 := by simp [prodL] at hc; omega
    have hr : rowN [] = 1 := rfl
    rw [hr] at f1 ⊢
    have : rotF L [] i = 0 := by omega
    rw [this, hi0]
    rfl
  · unfold rotPP
    rw [if_neg hs0, last_pl hsh i hi f0 f1 hs0])
/-- The row's number, by the document. -/
theorem place_row {s : List Int} (hsh : shB s = true) {i : Nat} (hi : i < cnt s) (hs0 : s ≠ []) : shB (s.take (s.length - 1)) = true → plN (s.take (s.length - 1)) ((atL s i).take (s.length - 1)) = (i : Int) / rowN s := by
  intro hsh2
  have hs := shB_iff.1 hsh
  have hc := cnt_int s
  rw [cntN_ok hsh] at hc
  have hpos := pos_of_prod (s := s) (fun l hl => (hs.2.1 l hl).1) (by omega)
  rcases List.eq_nil_or_concat s with rfl | ⟨f, m, rfl⟩
  · exact absurd rfl hs0
  · rw [List.concat_eq_append] at *
    have hr : rowN (f ++ [m]) = m := by simp [rowN]
    have hm : 0 < m := hpos m (by simp)
    have hf : ∀ l ∈ f, 0 < l := fun l hl => hpos l (by simp [hl])
    have e1 : (f ++ [m]).take ((f ++ [m]).length - 1) = f := by simp
    have e2 : (atL (f ++ [m]) i).take ((f ++ [m]).length - 1) = atL f ((i : Int) / m) := by
      rw [atL_last f m i (by omega), List.take_append_of_le_length (by rw [atL_length]; simp), List.take_of_length_le (by rw [atL_length]; simp)]
    rw [e1] at hsh2
    rw [e1, e2, hr, plN_ok (by unfold plB; rw [hsh2, inL_atL hf]; rfl)]
    have hp : prodL (f ++ [m]) = prodL f * m := by rw [prodL_append]; simp [prodL]
    refine plL_atL (fun l hl => Int.le_of_lt (hf l hl)) (Int.ediv_nonneg (by omega) (by omega)) (Int.ediv_lt_of_lt_mul hm (by omega))
end Go.Proofs.Ytmmbdhfljabefaa
