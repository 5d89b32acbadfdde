/- Notes' bytes, and the document's. -/
import Derived.Test.YtpiboaoifcajdaaNtA
namespace Go.Proofs.Ytpiboaoifcajdaa
open Go.RowKit

def noteL (k a b n : Nat) : List UInt8 := be 1 k ++ be 4 a ++ be 4 b ++ be 8 n
theorem noteL_length (k a b n : Nat) : (noteL k a b n).length = 17 := by unfold noteL; simp [be_length]
def encL (k a b n : Int) : List UInt8 := if mayB k a b n then noteL k.toNat a.toNat b.toNat n.toNat else []
def encE (k a b n : Int) : Int := if mayB k a b n then 0 else 90
theorem may_bounds {k a b n : Int} (h : mayB k a b n = true) : (1 ≤ k ∧ k ≤ 5) ∧ (0 ≤ a ∧ a ≤ 1048576) ∧ (0 ≤ b ∧ b ≤ 1048576) ∧ 0 ≤ n := by
  unfold mayB inB at h
  rw [Bool.and_eq_true, Bool.and_eq_true, Bool.and_eq_true, Bool.and_eq_true, Bool.and_eq_true] at h
  obtain ⟨⟨h1, h2⟩, ⟨h3, h4⟩, h5, h6⟩ := h
  have := of_decide_eq_true h1
  have := of_decide_eq_true h2
  have := of_decide_eq_true h3
  have := of_decide_eq_true h4
  have := of_decide_eq_true h5
  refine ⟨?_, by omega, by omega, by omega⟩
  split at h6
  · omega
  · split at h6
    · omega
    · rw [Bool.or_eq_true] at h6
      rcases h6 with h6 | h6
      · have := eq_of_beq h6; omega
      · have := eq_of_beq h6; omega

theorem enc_no (k a b n : Int) (w : World) (hm : ∀ w, Calls Try.prog 28 #[.agg #[.int .i64 k, .int .i64 a, .int .i64 b, .int .i64 n]] w (GaveBo w false)) : Calls Try.prog 9 #[.agg #[.int .i64 k, .int .i64 a, .int .i64 b, .int .i64 n]] w (GaveBE w [] 90) := by
  go_enter Try.func9, Try.ntmps9
  go_wp2_with fail
  refine (hm _).mono ?_
  rintro e w1 ⟨rfl, hC1⟩
  go_wp2
  go_ret2
  exact ⟨_, rfl, World.ownsRow_nil _ _ _ _, ((Chg.refl _ w).alloc _).tr hC1⟩
set_option maxHeartbeats 1000000 in
theorem enc_yes (k a b n : Nat) (w : World) (hk : k ≤ 5) (ha : a ≤ 1048576) (hb : b ≤ 1048576) (hn : n < 9223372036854775808) (hm : ∀ w, Calls Try.prog 28 #[.agg #[.int .i64 (k : Int), .int .i64 (a : Int), .int .i64 (b : Int), .int .i64 (n : Int)]] w (GaveBo w true)) :
    Calls Try.prog 9 #[.agg #[.int .i64 (k : Int), .int .i64 (a : Int), .int .i64 (b : Int), .int .i64 (n : Int)]] w (GaveBE w (noteL k a b n) 0) := by
  have u1 : IntKind.u64.wrap (k : Int) = k := by rw [wrap_u64_mod]; omega
  have u2 : IntKind.u64.wrap (a : Int) = a := by rw [wrap_u64_mod]; omega
  have u3 : IntKind.u64.wrap (b : Int) = b := by rw [wrap_u64_mod]; omega
  obtain ⟨n1, n2⟩ := num_fit 1 k rfl (by omega)
  obtain ⟨a1, a2⟩ := num_fit 4 a rfl (by omega)
  obtain ⟨b1, b2⟩ := num_fit 4 b rfl (by omega)
  go_enter Try.func9, Try.ntmps9
  go_wp2_with fail
  refine (hm _).mono ?_
  rintro e w1 ⟨rfl, hC1⟩
  have c0 : w1.cell? ⟨w.heap.size, 0, none⟩ = some (.int .i64 (k : Int)) := hC1.cell (new_cell w _ _ rfl) id
  have c1 : w1.cell? ⟨w.heap.size, 1, none⟩ = some (.int .i64 (a : Int)) := hC1.cell (new_cell w _ _ rfl) id
  have c2 : w1.cell? ⟨w.heap.size, 2, none⟩ = some (.int .i64 (b : Int)) := hC1.cell (new_cell w _ _ rfl) id
  have c3 : w1.cell? ⟨w.heap.size, 3, none⟩ = some (.int .i64 (n : Int)) := hC1.cell (new_cell w _ _ rfl) id
  have hC0 := (Chg.refl (fun _ => False) w1).alloc (.cells #[.slice none 0 0] 58)
  have hW0 := Wtr.zero w1 58
  have d0 := hC0.cell c0 id
  clear c0
  have h1 := num_any 1 k _ _ _ _ _ (by omega) (by omega) hW0 (by simp) (by simp)
  rw [Int.toNat_natCast, show (1 : Int) = ((1 : Nat) : Int) from rfl, n1, n2] at h1
  go_wp2_with fail
  refine h1.mono ?_
  clear h1
  rintro e w2 ⟨rfl, v2, hR1⟩
  have hF1 := wrote_fresh hC0 hW0 hR1
  replace c1 := hF1.cell c1 id
  replace c2 := hF1.cell c2 id
  replace c3 := hF1.cell c3 id
  have hs1 := hF1.size
  have h2 := num_any 4 a _ _ _ _ _ (by omega) (by omega) hR1.wtr (by simp [be_length]) (Nat.succ_le_of_lt (cell_lt hR1.wtr.cell))
  rw [Int.toNat_natCast, show (4 : Int) = ((4 : Nat) : Int) from rfl, a1, a2] at h2
  go_wp2_with fail
  refine h2.mono ?_
  clear h2
  rintro e w3 ⟨rfl, v3, hR2⟩
  have hF2 := wrote_fresh hC0 hW0 (hR1.trans hR2)
  have g1 := (Chg.cell hR2.chg c2 (fun e => e.elim (fun e => by have := hC1.size; simp at *; omega) (fun e => by have := (hR1.wtr.owns.lt _ e).1; have := hC1.size; simp at *; omega)))
  have g2 := (Chg.cell hR2.chg c3 (fun e => e.elim (fun e => by have := hC1.size; simp at *; omega) (fun e => by have := (hR1.wtr.owns.lt _ e).1; have := hC1.size; simp at *; omega)))
  clear c2 c3
  have h3 := num_any 4 b _ _ _ _ _ (by omega) (by omega) hR2.wtr (by simp [be_length]) (Nat.succ_le_of_lt (cell_lt hR2.wtr.cell))
  rw [Int.toNat_natCast, show (4 : Int) = ((4 : Nat) : Int) from rfl, b1, b2] at h3
  go_wp2_with fail
  refine h3.mono ?_
  clear h3
  rintro e w4 ⟨rfl, v4, hR3⟩
  have c3 := (Chg.cell hR3.chg g2 (fun e => e.elim (fun e => by have := hC1.size; simp at *; omega) (fun e => by have := (hR2.wtr.owns.lt _ e).1; have := hC1.size; simp at *; omega)))
  have hF3 := wrote_fresh hC0 hW0 ((hR1.trans hR2).trans hR3)
  have h4 := int_any (n : Int) _ _ _ _ _ hR3.wtr (by simp [be_length]) (Nat.succ_le_of_lt (cell_lt hR3.wtr.cell))
  rw [show ((n : Int) % 18446744073709551616).toNat = n by omega] at h4
  go_wp2_with fail
  refine h4.mono ?_
  clear h4
  rintro e w5 ⟨rfl, v5, hR4⟩
  have hF4 := wrote_fresh hC0 hW0 (((hR1.trans hR2).trans hR3).trans hR4)
  have h5 := bytes_any _ _ _ _ _ hR4.wtr (by simp [be_length])
  go_wp2_with fail
  refine h5.mono ?_
  clear h5
  rintro e w6 ⟨v6, rfl, ho, hF5⟩
  go_wp2
  go_ret2
  have hl : [] ++ be 1 k ++ be 4 a ++ be 4 b ++ be 8 n = noteL k a b n := rfl
  rw [hl] at ho
  exact ⟨_, rfl, owns_mono ho (by have := hC1.size; have := hF4.size; simp at *; omega), ((((Chg.refl _ w).alloc _).tr hC1).tr hF4).tr hF5⟩
theorem encode_any (k a b n : Int) (hn : n ≤ 9223372036854775807) (w : World) : Calls Try.prog 9 #[noteV k a b n] w (GaveBE w (encL k a b n) (encE k a b n)) := by
  have hm := may_any k a b n
  unfold noteV at *
  unfold encL encE
  cases h : mayB k a b n with
  | false =>
    rw [h] at hm
    exact enc_no k a b n w hm
  | true =>
    rw [h] at hm
    obtain ⟨⟨k1, k2⟩, ⟨a1, a2⟩, ⟨b1, b2⟩, n1⟩ := may_bounds h
    obtain ⟨k, rfl⟩ := Int.eq_ofNat_of_zero_le (show 0 ≤ k by omega)
    obtain ⟨a, rfl⟩ := Int.eq_ofNat_of_zero_le a1
    obtain ⟨b, rfl⟩ := Int.eq_ofNat_of_zero_le b1
    obtain ⟨n, rfl⟩ := Int.eq_ofNat_of_zero_le n1
    exact enc_yes k a b n w (by omega) (by omega) (by omega) (by omega) hm
end Go.Proofs.Ytpiboaoifcajdaa
