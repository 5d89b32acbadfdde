/- slices.Index, slices.Contains at []int64. -/
import Derived.Test.YtmmbdhfljabefaaArB
namespace Go.Proofs.Ytmmbdhfljabefaa
open Go.RowKit Go.Shelf

/-- The first place of a number, or -1. -/
def idxN (xs : List Int) (x : Int) : Int := if x ∈ xs then ((xs.idxOf x : Nat) : Int) else -1
theorem idxN_here {xs : List Int} {x : Int} {k : Nat} (hk : k < xs.length) (he : xs[k] = x) (hn : x ∉ xs.take k) : idxN xs x = (k : Int) := by
  have hm : x ∈ xs := he ▸ List.getElem_mem hk
  unfold idxN
  rw [if_pos hm]
  have h1 : xs = xs.take k ++ x :: xs.drop (k + 1) := by rw [← he, ← List.drop_eq_getElem_cons hk, List.take_append_drop]
  have h2 : xs.idxOf x = k := by
    rw [h1, List.idxOf_append, if_neg hn, List.idxOf_cons_self, List.length_take]
    omega
  rw [h2]
theorem idxN_not {xs : List Int} {x : Int} (h : x ∉ xs) : idxN xs x = -1 := if_neg h
theorem idxN_ge (xs : List Int) (x : Int) : decide (0 ≤ idxN xs x) = decide (x ∈ xs) := by
  unfold idxN
  by_cases h : x ∈ xs
  · rw [if_pos h]; simp [h]
  · rw [if_neg h]; simp [h]
def GaveIx (w : World) (n : Int) (e : Ending) (w' : World) : Prop := e = .returned (.int .i64 n) ∧ w' = w
def GaveBx (w : World) (b : Bool) (e : Ending) (w' : World) : Prop := e = .returned (.bool b) ∧ w' = w
set_option maxHeartbeats 1000000 in
theorem indexL_any (v : Value) (xs : List Int) (x : Int) (w : World) (hS : Ls w v xs) (hl : xs.length ≤ 1000000) : Calls Try.prog 81 #[v, .int .i64 x] w (GaveIx w (idxN xs x)) := by
  obtain ⟨ao, c, rfl, _⟩ := hS.form
  go_enter Try.func81, Try.ntmps81
  go_wp2
  go_loopw [8] (fun i wr => ∃ k : Nat, k ≤ xs.length ∧ i = .int .i64 k ∧ ¬ x ∈ xs.take k ∧ wr = w) (fun i _ => xs.length - (intOf i).toNat)
  case atStart => exact ⟨0, Nat.zero_le _, rfl, by simp, rfl⟩
  case round =>
    obtain ⟨k, hk, rfl, hn0, hw0⟩ := hrel
    have HN := Lib.hid hn0
    have HW := Lib.hid hw0
    clear hn0 hw0
    have hSr : Ls wr (.slice ao xs.length c) xs := by rw [HW.out]; exact hS
    by_cases hlt : k < xs.length
    · obtain ⟨b, o, c', e1, hcell⟩ := hSr.at hlt
      injection e1 with e1 e2 e3
      clear e2 e3
      subst e1
      have hkw : IntKind.i64.wrap ((k : Int) + 1) = (k : Int) + 1 := IntWalk.i64_in _ (by omega)
      have hk2 : (k : Int) < (xs.length : Int) := by omega
      have HI := Lib.hid (show xs[k] = x → x ∉ xs.take k → idxN xs x = (k : Int) from fun he hn => idxN_here hlt he hn)
      have HT := Lib.hid (show xs.take (k + 1) = xs.take k ++ [xs[k]] by rw [List.take_succ_eq_append_getElem hlt])
      generalize xs[k] = y at *
      have HS := Lib.hid hS
      clear hS hSr
      by_cases he : x = y
      · have HK := Lib.hid (HI.out he.symm HN.out)
        subst he
        have hb : (x == x) = true := beq_self_eq_true x
        go_wp2
        go_ret
        exact ⟨by rw [HK.out]; rfl, HW.out⟩
      · have hb : (x == y) = false := beq_eq_false_iff_ne.2 he
        have HE := Lib.hid he
        clear he
        go_wp2
        go_roundw
        case rel => exact ⟨k + 1, hlt, by go_num, by rw [HT.out, List.mem_append, List.mem_singleton]; exact fun h => h.elim HN.out HE.out, HW.out⟩
        case measure => exact fit_meas k xs.length hlt
    · obtain rfl : k = xs.length := by omega
      go_wp2
      go_ret
      have := HN.out
      rw [List.take_length] at this
      exact ⟨by rw [idxN_not this]; rfl, HW.out⟩
theorem containsL_any (v : Value) (xs : List Int) (x : Int) (w : World) (hS : Ls w v xs) (hl : xs.length ≤ 1000000) : Calls Try.prog 55 #[v, .int .i64 x] w (GaveBx w (decide (x ∈ xs))) := by
  have h := indexL_any v xs x w hS hl
  obtain ⟨ao, c, rfl, _⟩ := hS.form
  have he := idxN_ge xs x
  generalize idxN xs x = q at *
  have HE := Lib.hid he
  clear he hS
  go_enter Try.func55, Try.ntmps55
  go_wp2_with fail
  refine h.mono ?_
  clear h
  rintro e9 w1 ⟨rfl, rfl⟩
  go_wp2
  go_ret
  exact ⟨by rw [← HE.out]; rfl, rfl⟩
end Go.Proofs.Ytmmbdhfljabefaa
