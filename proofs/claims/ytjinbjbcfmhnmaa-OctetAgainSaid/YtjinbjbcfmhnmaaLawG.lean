/- OctetAgain: plain laws, and the round's state. -/
import Derived.Test.YtjinbjbcfmhnmaaLawK
namespace Go.Proofs.Ytjinbjbcfmhnmaa
open Go.RowKit

/-- What is read of l at pos and written again is what was read. -/
def AgainOk (l : List UInt8) (pos : Nat) (x : OpD) (E : Int) (p : Nat) : Prop :=
  (E = 0 → okW x = true ∧ ∃ m, m ≤ l.length ∧ p = pos + m ∧ opBytes x = l.take m) ∧ (E ≠ 0 → p = pos)

theorem rErr_zero {l : List UInt8} {size : Int} (h : rErr l size = 0) : szd size = true ∧ size.toNat ≤ l.length := by
  unfold rErr at h
  by_cases hz : szd size = true
  · rw [if_pos hz] at h
    by_cases hc : size.toNat ≤ l.length
    · exact ⟨hz, hc⟩
    · rw [if_neg hc] at h; cases h
  · rw [if_neg hz] at h; cases h
theorem rVal_be {l : List UInt8} {size : Int} (h : rErr l size = 0) : rVal l size < 2 ^ (8 * size.toNat) ∧ be size.toNat (rVal l size) = l.take size.toNat := by
  obtain ⟨hz, hc⟩ := rErr_zero h
  have hs := szd_cases hz
  have hlen : (l.take size.toNat).length = size.toNat := by rw [List.length_take]; omega
  have := wholeM_bound (l.take size.toNat) (by omega)
  rw [hlen] at this
  unfold rVal
  rw [if_pos h]
  exact this
theorem rVal_lt (l : List UInt8) (size : Int) : rVal l size < 18446744073709551616 := by
  by_cases h : rErr l size = 0
  · have h1 := (rVal_be h).1
    have hs := szd_cases (rErr_zero h).1
    have : 2 ^ (8 * size.toNat) ≤ 2 ^ 64 := Nat.pow_le_pow_right (by decide) (by omega)
    omega
  · unfold rVal
    rw [if_neg h]
    decide

theorem rVal_lti (l : List UInt8) (size : Int) : ((rVal l size : Nat) : Int) < 18446744073709551616 := by
  have h := rVal_lt l size
  generalize rVal l size = q at *
  omega
theorem u64_wrap64 (q : Nat) (h : q < 18446744073709551616) : IntKind.u64.wrap (wrap64 q) = q := by
  rw [wrap_u64_mod]
  unfold wrap64
  by_cases h2 : q < 9223372036854775808
  · have e : ((q : Int) + 9223372036854775808) % 18446744073709551616 = (q : Int) + 9223372036854775808 := Int.emod_eq_of_lt (by omega) (by omega)
    have e2 : (q : Int) % 18446744073709551616 = q := Int.emod_eq_of_lt (by omega) (by omega)
    simp only [e, Int.add_sub_cancel, e2]
  · have e : ((q : Int) + 9223372036854775808) % 18446744073709551616 = (q : Int) - 9223372036854775808 := by
      rw [show (q : Int) + 9223372036854775808 = ((q : Int) - 9223372036854775808) + 18446744073709551616 by omega, Int.add_emod_right]
      exact Int.emod_eq_of_lt (by omega) (by omega)
    simp only [e]
    rw [show (q : Int) - 9223372036854775808 - 9223372036854775808 = (q : Int) - 18446744073709551616 by omega, ← Int.add_emod_right, Int.sub_add_cancel]
    exact Int.emod_eq_of_lt (by omega) (by omega)

theorem again0 (l : List UInt8) (pos : Nat) (size : Int) (s : ByteArray) : AgainOk l pos ⟨0, size, (rVal l size : Nat), s⟩ (rErr l size) (rPos l size pos) := by
  refine ⟨fun h => ?_, fun h => by rw [rPos, if_neg h]⟩
  obtain ⟨hz, hc⟩ := rErr_zero h
  obtain ⟨h1, h2⟩ := rVal_be h
  have hn : numErr size (rVal l size) = 0 := by
    have hs := szd_cases hz
    obtain ⟨k, rfl⟩ := Int.eq_ofNat_of_zero_le (show 0 ≤ size by omega)
    rw [Int.toNat_natCast] at h1
    rw [numErr_q hz (rVal_lt _ _), Nat.div_eq_of_lt h1]
    rfl
  refine ⟨by show (numErr size _ == 0) = true; rw [Int.toNat_natCast, hn]; rfl, size.toNat, hc, by rw [rPos, if_pos h], ?_⟩
  show numBytes size _ = _
  rw [Int.toNat_natCast, numBytes, if_pos hn, h2]

theorem again1 (l : List UInt8) (pos : Nat) (size : Int) (s : ByteArray) : AgainOk l pos ⟨1, size, (rVal l 8 : Nat), s⟩ (rErr l 8) (rPos l 8 pos) := by
  refine ⟨fun h => ?_, fun h => by rw [rPos, if_neg h]⟩
  obtain ⟨hz, hc⟩ := rErr_zero h
  obtain ⟨h1, h2⟩ := rVal_be h
  refine ⟨rfl, 8, hc, by rw [rPos, if_pos h]; rfl, ?_⟩
  show be 8 _ = _
  rw [Int.toNat_natCast]
  exact h2

theorem again2 (l : List UInt8) (pos : Nat) (size n : Int) (S : ByteArray) (hS : S.toList = txtVal l) : AgainOk l pos ⟨2, size, n, S⟩ (txtErr l) (txtPos l pos) := by
  refine ⟨fun h => ?_, fun h => by rw [txtPos, if_neg h]⟩
  have hc : 2 ≤ l.length ∧ wholeM (l.take 2) ≤ l.length - 2 := by
    unfold txtErr at h
    by_cases hc : 2 ≤ l.length ∧ wholeM (l.take 2) ≤ l.length - 2
    · exact hc
    · rw [if_neg hc] at h; cases h
  have hl2 : (l.take 2).length = 2 := by rw [List.length_take]; omega
  have hb := wholeM_bound (l.take 2) (by omega)
  rw [hl2] at hb
  have hm : wholeM (l.take 2) < 65536 := hb.1
  have hSl : S.data.toList = (l.drop 2).take (wholeM (l.take 2)) := by
    rw [← ByteArray.toList_eq, hS, txtVal, if_pos h]
  have hsz : S.size = wholeM (l.take 2) := by
    have := congrArg List.length hSl
    rw [List.length_take, List.length_drop, opLen' S] at this
    omega
  refine ⟨?_, 2 + wholeM (l.take 2), by omega, by rw [txtPos, if_pos h]; omega, ?_⟩
  · show (textErr S == 0) = true
    rw [textErr, if_neg (by omega)]
    rfl
  · show textBytes S = _
    rw [textBytes, if_neg (by omega), hSl, hsz, hb.2, List.take_add]
where
  opLen' (s : ByteArray) : s.data.toList.length = s.size := by simp

theorem again3 (l : List UInt8) (pos : Nat) (size n : Int) (S : ByteArray) (hS : S.toList = rawVal l size) : AgainOk l pos ⟨3, size, n, S⟩ (rawErr l size) (rawPos l size pos) := by
  refine ⟨fun h => ?_, fun h => by rw [rawPos, if_neg h]⟩
  have hc : 0 ≤ size ∧ size ≤ l.length := by
    unfold rawErr at h
    by_cases h1 : size < 0
    · rw [if_pos h1] at h; cases h
    · rw [if_neg h1] at h
      by_cases h2 : (l.length : Int) < size
      · rw [if_pos h2] at h; cases h
      · omega
  have hSl : S.data.toList = l.take size.toNat := by rw [← ByteArray.toList_eq, hS, rawVal, if_pos h]
  exact ⟨rfl, size.toNat, by omega, by rw [rawPos, if_pos h], hSl⟩

/-- The round's state. -/
structure AInv (W w : World) (base b rb : Nat) (u v : Value) (xs : List UInt8) (p q : Nat) : Prop where
  r : RInv W w rb v xs p
  wtr : Wtr w base b u (xs.take q)
  hW : W.heap.size ≤ b
  hr : rb < b
  hv : ∀ k, v.ownBlock = some k → k < b
  sz : base ≤ w.heap.size

theorem AInv.fr {W w w' : World} {base b rb : Nat} {u v : Value} {xs : List UInt8} {p q : Nat} (h : AInv W w base b rb u v xs p q) (hC : Chg (fun _ => False) w w') : AInv W w' base b rb u v xs p q :=
  ⟨h.r.fr hC, h.wtr.fr hC, h.hW, h.hr, h.hv, Nat.le_trans h.sz hC.size⟩
theorem AInv.read {W w w' : World} {base b rb : Nat} {u v : Value} {xs : List UInt8} {p q p' : Nat} (h : AInv W w base b rb u v xs p q) (hR : Rdr w' rb v xs p') (hC : Chg (fun j => j = rb) w w') : AInv W w' base b rb u v xs p' q :=
  ⟨h.r.read hR hC, h.wtr.chg hC (fun e => by have := h.hr; omega) (fun k hk e => by have := (h.wtr.owns.lt k hk).1; have := h.wtr.lt; have := h.hr; omega), h.hW, h.hr, h.hv, Nat.le_trans h.sz hC.size⟩
theorem AInv.wrote {W w w' : World} {base b rb : Nat} {u u' v : Value} {xs : List UInt8} {p q q' : Nat} (h : AInv W w base b rb u v xs p q) (hR : Wrote w w' base b u u' (xs.take q')) : AInv W w' base b rb u' v xs p q' := by
  have hlt := h.wtr.lt
  refine ⟨⟨h.r.rdr.chg hR.chg (fun e => ?_) (fun k hk e => ?_), ?_, h.r.hb, h.r.hv⟩, hR.wtr, h.hW, h.hr, h.hv, Nat.le_trans h.sz hR.chg.size⟩
  · rcases e with e | e
    · have := h.hr; omega
    · have := (h.wtr.owns.lt _ e).1; have := h.hr; omega
  · have h1 := h.hv k hk
    rcases e with e | e
    · omega
    · have := (h.wtr.owns.lt _ e).1; omega
  · refine h.r.old.trans hR.chg (fun _ _ h => h) (fun i hi e => ?_)
    have h1 := h.hW
    rcases e with e | e
    · omega
    · have := (h.wtr.owns.lt _ e).1; omega

theorem chg_box (w : World) (g i : Nat) (x : Value) : Chg (fun j => j = g) w (w.setCell ⟨g, i, none⟩ x) := (Chg.refl (fun j => j = g) w).setCell (p := ⟨g, i, none⟩) (.inl rfl) x

/-- The box of the round is no part of the state. -/
theorem AInv.box {W w w' : World} {base b rb g : Nat} {u v : Value} {xs : List UInt8} {p q : Nat} (h : AInv W w base b rb u v xs p q) (hC : Chg (fun j => j = g) w w') (hg : W.heap.size ≤ g) (h1 : g ≠ b) (h2 : g ≠ rb) (h3 : ∀ k, u.ownBlock = some k → g ≠ k) (h4 : ∀ k, v.ownBlock = some k → g ≠ k) : AInv W w' base b rb u v xs p q := by
  refine ⟨⟨h.r.rdr.chg hC (fun e => h2 e.symm) (fun k hk e => h4 k hk e.symm), h.r.old.trans hC (fun _ _ h => h) (fun i hi e => by omega), h.r.hb, h.r.hv⟩, h.wtr.chg hC (fun e => h1 e.symm) (fun k hk e => h3 k hk e.symm), h.hW, h.hr, h.hv, Nat.le_trans h.sz hC.size⟩

end Go.Proofs.Ytjinbjbcfmhnmaa
