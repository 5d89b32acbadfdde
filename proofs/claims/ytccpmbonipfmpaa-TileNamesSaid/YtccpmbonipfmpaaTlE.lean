/- tile.Encode. -/
import Derived.Test.YtccpmbonipfmpaaTlC
import Derived.Deep.OwnRows
import Derived.Lib.SlBytesConst
namespace Go.Proofs.Ytccpmbonipfmpaa
open Go.RowKit

theorem w64 (q : Int) (h : -9223372036854775808 ≤ q ∧ q ≤ 9223372036854775807) : wrap64 q = q := by rw [show wrap64 q = IntKind.i64.wrap q by rw [IntKind.wrap_i64, wrap64], IntKind.wrap_i64]; omega
theorem num_fit (sz n : Nat) (hz : szd sz = true) (h : n < 2 ^ (8 * sz)) : numErr sz n = 0 ∧ numBytes sz n = be sz n := by
  have e : numErr sz n = 0 := by
    unfold numErr
    rw [if_pos hz, if_neg (by rw [Int.toNat_natCast, Nat.div_eq_of_lt h]; omega)]
  refine ⟨e, ?_⟩
  unfold numBytes
  rw [if_pos e, Int.toNat_natCast]
def be8 (n : Int) : List UInt8 := be 8 (n % 18446744073709551616).toNat
theorem be8_eq (n : Int) : be8 n = be 8 (n % 18446744073709551616).toNat := rfl
def elemsL (l : List Int) : List UInt8 := l.flatMap be8
theorem elemsL_length (l : List Int) : (elemsL l).length = 8 * l.length := by
  unfold elemsL
  induction l with
  | nil => rfl
  | cons x r ih => rw [List.flatMap_cons, List.length_append, ih, be8, be_length, List.length_cons]; omega
theorem elemsL_snoc (l : List Int) (x : Int) : elemsL (l ++ [x]) = elemsL l ++ be8 x := by unfold elemsL; simp
def headL (f : Int) (no k len : Nat) : List UInt8 := [81, 84, 1] ++ be 1 k ++ be8 f ++ be 4 no ++ be 4 len
theorem headL_length (f : Int) (no k len : Nat) : (headL f no k len).length = 20 := by unfold headL be8; simp [be_length]
/-- A tile's bytes ahead of the sum. -/
def bodyL (f : Int) (no k : Nat) (l : List Int) (s : Nat) : List UInt8 := headL f no k l.length ++ elemsL l ++ List.replicate (s * 128 - 24 - 8 * l.length) 0
theorem wrap_step (j n s : Nat) (h : 1 ≤ s ∧ s ≤ 64 ∧ 8 * n + 24 ≤ s * 128) (hj : j < n) : wrap64 ((j : Int) + 1) = (j : Int) + 1 := w64 _ (by omega)
theorem meas_step (j n : Nat) (h : j < n) (hw : wrap64 ((j : Int) + 1) = (j : Int) + 1) : n - (intOf (.int .i64 (wrap64 ((j : Int) + 1)))).toNat < n - (intOf (.int .i64 (j : Int))).toNat := by
  rw [hw]
  simp [intOf]
  omega
theorem len_step (hd : List UInt8) (l : List Int) (j n s : Nat) (h1 : hd.length = 20) (h2 : l.length = n) (h : 1 ≤ s ∧ s ≤ 64 ∧ 8 * n + 24 ≤ s * 128) : (hd ++ elemsL (l.take j)).length + 8 ≤ 140737488355328 := by
  rw [List.length_append, h1, elemsL_length, List.length_take, h2]
  omega
theorem enc_no (f no k s : Int) (v : Value) (w : World) (E : Int) (hE : (E != 0) = true) (hc : ∀ w', Chg (fun _ => False) w w' → Calls Try.prog 11 #[.agg #[.int .i64 f, .int .i64 no, .int .i64 k, v], .int .i64 s] w' (GaveI w' E)) :
    Calls Try.prog 9 #[.agg #[.int .i64 f, .int .i64 no, .int .i64 k, v], .int .i64 s] w (GaveBE w [] E) := by
  go_enter Try.func9, Try.ntmps9
  go_wp2_with fail
  refine (hc _ ((Chg.refl _ w).alloc _)).mono ?_
  rintro e w1 ⟨rfl, hC1⟩
  go_wp2
  go_ret2
  exact ⟨_, rfl, World.ownsRow_nil _ _ _ _, ((Chg.refl _ w).alloc _).tr hC1⟩
set_option maxRecDepth 100000 in
set_option maxHeartbeats 2000000 in
theorem enc_yes (f : Int) (no k s : Nat) (v : Value) (l : List Int) (w : World) (hS : Sl w v (l.map I)) (hk : k < 256) (hno : no < 4096) (hs1 : 1 ≤ s) (hs2 : s ≤ 64) (hlen : 8 * l.length + 24 ≤ s * 128)
    (hc : ∀ w', Chg (fun _ => False) w w' → Calls Try.prog 11 #[.agg #[.int .i64 f, .int .i64 (no : Int), .int .i64 (k : Int), v], .int .i64 (s : Int)] w' (GaveI w' 0)) :
    Calls Try.prog 9 #[.agg #[.int .i64 f, .int .i64 (no : Int), .int .i64 (k : Int), v], .int .i64 (s : Int)] w (GaveBE w (sealL (bodyL f no k l s)) 0) := by
  obtain ⟨ao, c, rfl, _⟩ := hS.form
  rw [List.length_map] at hS hc ⊢
  obtain ⟨n, hn⟩ : ∃ n, l.length = n := ⟨_, rfl⟩
  rw [hn] at hS hc hlen ⊢
  have u1 : IntKind.u64.wrap (k : Int) = k := by rw [wrap_u64_mod]; omega
  have u2 : IntKind.u64.wrap (no : Int) = no := by rw [wrap_u64_mod]; omega
  have u3 : IntKind.u64.wrap (n : Int) = n := by rw [wrap_u64_mod]; omega
  obtain ⟨n1, n2⟩ := num_fit 1 k rfl (by omega)
  obtain ⟨a1, a2⟩ := num_fit 4 no rfl (by omega)
  obtain ⟨b1, b2⟩ := num_fit 4 n rfl (by omega)
  have HS := Lib.hid hS
  have HN := Lib.hid hn
  have HB := Lib.hid (show 1 ≤ s ∧ s ≤ 64 ∧ 8 * n + 24 ≤ s * 128 from ⟨hs1, hs2, hlen⟩)
  have HK := Lib.hid (show k < 256 ∧ no < 4096 from ⟨hk, hno⟩)
  clear hS hn hs1 hs2 hlen hk hno
  go_enter Try.func9, Try.ntmps9
  go_wp2_with fail
  refine (hc _ ((Chg.refl _ w).alloc _)).mono ?_
  clear hc
  rintro e w1 ⟨rfl, hC1⟩
  have c0 : w1.cell? ⟨w.heap.size, 0, none⟩ = some (.int .i64 f) := hC1.cell (new_cell w _ _ rfl) id
  have c1 : w1.cell? ⟨w.heap.size, 1, none⟩ = some (.int .i64 (no : Int)) := hC1.cell (new_cell w _ _ rfl) id
  have c2 : w1.cell? ⟨w.heap.size, 2, none⟩ = some (.int .i64 (k : Int)) := hC1.cell (new_cell w _ _ rfl) id
  have c3 : w1.cell? ⟨w.heap.size, 3, none⟩ = some (.slice ao n c) := hC1.cell (new_cell w _ _ rfl) id
  have hC0 := ((Chg.refl (fun _ => False) w1).alloc (.cells #[.slice none 0 0] 48)).alloc (.cells #[.int .u8 81, .int .u8 84, .int .u8 1] 5 (3, 4))
  have hW0 : Wtr ((w1.alloc (.cells #[.slice none 0 0] 48)).alloc (.cells #[.int .u8 81, .int .u8 84, .int .u8 1] 5 (3, 4))) (w1.heap.size + 1) w1.heap.size (.slice none 0 0) [] :=
    ((Wtr.new w1 48).chg ((Chg.refl (fun _ => False) _).alloc _) id (fun _ _ => id))
  have hSl : Sl ((w1.alloc (.cells #[.slice none 0 0] 48)).alloc (.cells #[.int .u8 81, .int .u8 84, .int .u8 1] 5 (3, 4))) (.slice (some ⟨w1.heap.size + 1, 0, none⟩) 3 3) (([81, 84, 1] : List UInt8).map B) := by
    have := Sl.mark (w1.alloc (.cells #[.slice none 0 0] 48)) (([81, 84, 1] : List UInt8).map B) 5 (3, 4) (by show 3 ≤ maxLen; unfold maxLen; decide)
    rw [World.size_alloc] at this
    exact this
  have hcv := Lib.run_convert_bytes_const (P := Try.prog) (w1.alloc (.cells #[.slice none 0 0] 48)) 25 5 #[.int .u8 81, .int .u8 84, .int .u8 1] 3 3 Try.underlying25 Try.underlying5
  rw [World.size_alloc] at hcv
  have h1 := raw_any _ [81, 84, 1] _ _ _ _ _ hSl hW0 (by decide) (by simp)
  go_wp2_with fail
  refine h1.mono ?_
  clear h1
  rintro e w2 ⟨rfl, v2, hR1⟩
  have hF1 := wrote_fresh hC0 hW0 hR1
  have g2 := hF1.cell c2 id
  clear c2 hcv
  have h2 := num_any 1 k _ _ _ _ _ (by omega) (by have := HK.out; omega) hR1.wtr (by simp) (Nat.succ_le_of_lt (cell_lt hR1.wtr.cell))
  rw [Int.toNat_natCast, show (1 : Int) = ((1 : Nat) : Int) from rfl, n1, n2] at h2
  go_wp2_with fail
  refine h2.mono ?_
  clear h2
  rintro e w3 ⟨rfl, v3, hR2⟩
  replace hR2 := hR1.trans hR2
  have hF2 := wrote_fresh hC0 hW0 hR2
  have g0 := hF2.cell c0 id
  have h3 := int_any f _ _ _ _ _ hR2.wtr (by simp [be_length]) (Nat.succ_le_of_lt (cell_lt hR2.wtr.cell))
  clear g2 c0
  go_wp2_with fail
  refine h3.mono ?_
  clear h3
  rintro e w4 ⟨rfl, v4, hR3⟩
  replace hR3 := hR2.trans hR3
  have hF3 := wrote_fresh hC0 hW0 hR3
  have g1 := hF3.cell c1 id
  have h4 := num_any 4 no _ _ _ _ _ (by omega) (by have := HK.out; omega) hR3.wtr (by simp [be_length]) (Nat.succ_le_of_lt (cell_lt hR3.wtr.cell))
  rw [Int.toNat_natCast, show (4 : Int) = ((4 : Nat) : Int) from rfl, a1, a2] at h4
  clear g0 c1
  go_wp2_with fail
  refine h4.mono ?_
  clear h4
  rintro e w5 ⟨rfl, v5, hR4⟩
  replace hR4 := hR3.trans hR4
  have hF4 := wrote_fresh hC0 hW0 hR4
  have g3 := hF4.cell c3 id
  have h5 := num_any 4 n _ _ _ _ _ (by omega) (by have := HB.out; omega) hR4.wtr (by simp [be_length]) (Nat.succ_le_of_lt (cell_lt hR4.wtr.cell))
  rw [Int.toNat_natCast, show (4 : Int) = ((4 : Nat) : Int) from rfl, b1, b2] at h5
  clear g1
  go_wp2_with fail
  refine h5.mono ?_
  clear h5
  rintro e w6 ⟨rfl, v6, hR5⟩
  replace hR5 := hR4.trans hR5
  have hF5 := wrote_fresh hC0 hW0 hR5
  have g4 := hF5.cell c3 id
  have HW0 := Lib.hid hW0
  have HC0 := Lib.hid hC0
  have hW1 : Chg (fun _ => False) w w1 := ((Chg.refl _ w).alloc _).tr hC1
  have HW1 := Lib.hid hW1
  rw [show [] ++ [81, 84, 1] ++ be 1 k ++ be 8 (f % 18446744073709551616).toNat ++ be 4 no ++ be 4 n = headL f no k n from rfl] at hR5
  have hhl := Lib.hid (headL_length f no k n)
  obtain ⟨hd, hhd⟩ : ∃ hd, headL f no k n = hd := ⟨_, rfl⟩
  rw [hhd] at hR5 hhl
  have HHD := Lib.hid hhd
  clear hR1 hR2 hR3 hR4 hF1 hF2 hF3 hF4 g3 c3 hC1 hSl hW0 hC0 hW1 n1 n2 a1 a2 b1 b2 u1 u2 u3 hhd
  obtain ⟨W0, hW0e⟩ : ∃ W0, ((w1.alloc (.cells #[.slice none 0 0] 48)).alloc (.cells #[.int .u8 81, .int .u8 84, .int .u8 1] 5 (3, 4))) = W0 := ⟨_, rfl⟩
  rw [hW0e] at hR5 HW0 HC0
  clear hW0e
  go_wp2
  go_loopw [41] (fun i wr => ∃ (j : Nat) (v' : Value), j ≤ n ∧ i = .int .i64 j ∧ Wrote W0 wr (w1.heap.size + 1) w1.heap.size (.slice none 0 0) v' (hd ++ elemsL (l.take j))) (fun i _ => n - (intOf i).toNat)
  case atStart => exact ⟨0, _, Nat.zero_le _, rfl, by show Wrote W0 w6 _ _ _ v6 (hd ++ []); rw [List.append_nil]; exact hR5⟩
  case round =>
    obtain ⟨j, v', hj, rfl, hR⟩ := hrel
    have hF := wrote_fresh HC0.out HW0.out hR
    by_cases hlt : j < n
    · have hj2 : (j : Int) < (n : Int) := by omega
      have hkw : wrap64 ((j : Int) + 1) = (j : Int) + 1 := wrap_step j n s HB.out hlt
      obtain ⟨x, hx⟩ : ∃ x, l[j]? = some x := ⟨_, List.getElem?_eq_getElem (by rw [HN.out]; exact hlt)⟩
      have hTk := Lib.hid (show l.take (j + 1) = l.take j ++ [x] by rw [List.take_add_one, hx]; rfl)
      obtain ⟨b, o, c', e1, hcell⟩ := (HS.out.fr (HW1.out.tr hF)).cells j (I x) (by rw [List.getElem?_map, hx]; rfl)
      injection e1 with e1 e2 e3
      clear e2 e3
      subst e1
      unfold I at hcell
      have hlen := len_step hd l j n s hhl.out HN.out HB.out
      have hp := int_any x _ _ _ _ _ hR.wtr hlen (Nat.succ_le_of_lt (cell_lt hR.wtr.cell))
      clear hx hlen
      go_wp2_with fail
      refine hp.mono ?_
      clear hp
      rintro e w7 ⟨rfl, v7, hR7⟩
      go_wp2
      go_roundw
      case rel => exact ⟨j + 1, v7, by omega, by go_num, by rw [hTk.out, elemsL_snoc, be8_eq, ← List.append_assoc]; exact hR.trans hR7⟩
      case measure => exact meas_step j n hlt hkw
    · obtain rfl : n = j := by omega
      rw [List.take_of_length_le (by rw [HN.out]; exact Nat.le_refl _)] at hR
      obtain ⟨q, hq⟩ : ∃ q, s * 128 - 24 - 8 * n = q := ⟨_, rfl⟩
      have e1 : IntKind.i64.wrap ((s : Int) * 128) = (s : Int) * 128 := IntWalk.i64_in _ (by have := HB.out; omega)
      have e2 : IntKind.i64.wrap ((s : Int) * 128 - 4) = (s : Int) * 128 - 4 := IntWalk.i64_in _ (by have := HB.out; omega)
      have hll : (hd ++ elemsL l).length = 20 + 8 * n := by rw [List.length_append, hhl.out, elemsL_length, HN.out]
      have hle := len_any _ _ _ _ _ hR.wtr
      rw [hll] at hle
      obtain ⟨m, hm⟩ : ∃ m, 20 + 8 * n = m := ⟨_, rfl⟩
      rw [hm] at hle
      have e3 : IntKind.i64.wrap ((s : Int) * 128 - 4 - (m : Int)) = (q : Int) := by rw [show (s : Int) * 128 - 4 - (m : Int) = (q : Int) by have := HB.out; omega]; exact IntWalk.i64_in _ (by have := HB.out; omega)
      have hqb : q ≤ 8192 := by have := HB.out; omega
      have hmk := fun w => run_make_row' (P := Try.prog) 25 5 (.int .u8 0) 1 Try.underlying25 Try.info5 rfl .i64 .i64 q (by omega) (by omega) w
      have h1 : madeCells #[.int .u8 0] q = ((List.replicate q (0 : UInt8)).map B).toArray := by
        apply Array.ext
        · simp [size_madeCells]
        · intro i h1 h2
          simp [madeCells, B, Nat.mod_one]
      have HQ := Lib.hid (show s * 128 - 24 - 8 * n = q ∧ q ≤ 8192 ∧ 20 + 8 * n = m from ⟨hq, hqb, hm⟩)
      have HLL := Lib.hid hll
      have hz := Sl.lit wr ((List.replicate q (0 : UInt8)).map B) 5 (by rw [List.length_map, List.length_replicate]; unfold maxLen; omega)
      rw [← h1, List.length_map, List.length_replicate] at hz
      have hWz : Wtr (wr.alloc (.cells (madeCells #[.int .u8 0] q) 5)) (w1.heap.size + 1) w1.heap.size v' (hd ++ elemsL l) := hR.wtr.chg ((Chg.refl (fun _ => False) _).alloc _) id (fun _ _ => id)
      have hr := raw_any _ (List.replicate q (0 : UInt8)) _ _ _ _ _ hz hWz (by rw [HLL.out, List.length_replicate]; have := HB.out; omega) (by have hh : w1.heap.size < wr.heap.size := cell_lt hR.wtr.cell; simp; omega)
      generalize madeCells #[.int .u8 0] q = MC at *
      clear h1 hz hq hqb hm hll hj hlt hR5 hF5 g4
      go_wp2_with fail
      refine hle.mono ?_
      clear hle
      rintro e w7 ⟨rfl, rfl⟩
      go_wp2_with fail
      refine hr.mono ?_
      clear hr
      rintro e w8 ⟨rfl, v8, hR8⟩
      have hF8 : Chg (fun _ => False) w1 w8 := wrote_fresh (hF.alloc _) hWz hR8
      have hb := bytes_any _ _ _ _ _ hR8.wtr (by rw [List.length_append, HLL.out, List.length_replicate]; have := HB.out; have := HQ.out; omega)
      go_wp2_with fail
      refine hb.mono ?_
      clear hb
      rintro e w9 ⟨v9, rfl, ho9, hC9⟩
      have hsl := seal_any _ _ _ (Sl.of_owns ho9) (by rw [List.length_append, HLL.out, List.length_replicate]; have := HB.out; have := HQ.out; omega)
      go_wp2_with fail
      refine hsl.mono ?_
      clear hsl
      rintro e w10 ⟨v10, rfl, ho10, hC10⟩
      go_wp2
      go_ret2
      have hbl : hd ++ elemsL l ++ List.replicate q 0 = bodyL f no k l s := by unfold bodyL; rw [HN.out, HHD.out, HQ.out.1]
      rw [hbl] at ho10
      exact ⟨_, rfl, owns_mono ho10 (by have := HW1.out.size; have := hF8.size; have := hC9.size; omega), ((HW1.out.tr hF8).tr hC9).tr hC10⟩
end Go.Proofs.Ytccpmbonipfmpaa
