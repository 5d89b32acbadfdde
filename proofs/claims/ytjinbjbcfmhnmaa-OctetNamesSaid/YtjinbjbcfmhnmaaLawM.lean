/- OctetNames' walk: the examples of the chapter. -/
import Derived.Test.YtjinbjbcfmhnmaaLawW
import Derived.Test.YtjinbjbcfmhnmaaOctZ
import Derived.Deep.OwnRows
namespace Go.Proofs.Ytjinbjbcfmhnmaa
open Go.RowKit

theorem nm1 : numErr 1 (256 : Int).toNat = 10 := by decide +kernel
theorem nb1 : ([] ++ numBytes 1 (256 : Int).toNat : List UInt8) = [] := by decide +kernel
theorem nm2 : numErr 3 (1 : Int).toNat = 2 := by decide +kernel
theorem nb2 : ([] ++ numBytes 3 (1 : Int).toNat : List UInt8) = [] := by decide +kernel
theorem nm3 : numErr 4 (4294967296 : Int).toNat = 10 := by decide +kernel
theorem nb3 : ([] ++ numBytes 4 (4294967296 : Int).toNat : List UInt8) = [] := by decide +kernel
theorem nm4 : numErr 8 (18446744073709551615 : Int).toNat = 0 := by decide +kernel
theorem nb4 : ([] ++ numBytes 8 (18446744073709551615 : Int).toNat : List UInt8) = [255, 255, 255, 255, 255, 255, 255, 255] := by decide +kernel
theorem nm5 : numErr 0 (0 : Int).toNat = 2 := by decide +kernel
theorem nb5 : ([255, 255, 255, 255, 255, 255, 255, 255] ++ numBytes 0 (0 : Int).toNat : List UInt8) = [255, 255, 255, 255, 255, 255, 255, 255] := by decide +kernel
theorem nl5 : ((([255, 255, 255, 255, 255, 255, 255, 255] : List UInt8).length : Nat) : Int) = 8 := by decide +kernel

/-- A made slice of bytes, as a text. -/
theorem made_text (n : Nat) (hn : n ≤ maxLen) (w : World) : ∃ S : ByteArray, S.size = n ∧ (convert 24 9 (.slice (some ⟨w.heap.size, 0, none⟩) n n)).run Try.prog (w.alloc (.cells (madeCells #[.int .u8 0] n) 5)) = .ok (.string S) (w.alloc (.cells (madeCells #[.int .u8 0] n) 5)) := by
  have h1 : madeCells #[.int .u8 0] n = ((List.replicate n (0 : UInt8)).map B).toArray := by
    apply Array.ext
    · simp [size_madeCells]
    · intro i h1 h2
      simp [madeCells, B, Nat.mod_one]
  have hS := Sl.lit w ((List.replicate n (0 : UInt8)).map B) 5 (by simpa using hn)
  rw [← h1] at hS
  have hc := conv_sl hS
  rw [List.length_map, List.length_replicate] at hc
  exact ⟨_, by show (List.toArray _).size = n; simp, hc⟩

theorem r0t : txtErr (List.drop 0 [0, 3, 97, 98]) = 10 := by decide +kernel
theorem r0p : txtPos (List.drop 0 [0, 3, 97, 98]) 0 = 0 := by decide +kernel
theorem r1 : rVal (List.drop 0 [0, 3, 97, 98]) 2 = 3 := by decide +kernel
theorem r1e : rErr (List.drop 0 [0, 3, 97, 98]) 2 = 0 := by decide +kernel
theorem r1p : rPos (List.drop 0 [0, 3, 97, 98]) 2 0 = 2 := by decide +kernel
theorem r2e : rErr (List.drop 2 [0, 3, 97, 98]) 4 = 10 := by decide +kernel
theorem r2p : rPos (List.drop 2 [0, 3, 97, 98]) 4 2 = 2 := by decide +kernel
theorem r3e : rErr (List.drop 2 [0, 3, 97, 98]) 5 = 2 := by decide +kernel
theorem r3p : rPos (List.drop 2 [0, 3, 97, 98]) 5 2 = 2 := by decide +kernel
theorem r4e : rawErr (List.drop 2 [0, 3, 97, 98]) (-1) = 2 := by decide +kernel
theorem r4p : rawPos (List.drop 2 [0, 3, 97, 98]) (-1) 2 = 2 := by decide +kernel
theorem r5e : rawErr (List.drop 2 [0, 3, 97, 98]) 3 = 10 := by decide +kernel
theorem r5p : rawPos (List.drop 2 [0, 3, 97, 98]) 3 2 = 2 := by decide +kernel
theorem r6e : rErr (List.drop 2 [0, 3, 97, 98]) 8 = 10 := by decide +kernel
theorem r6p : rPos (List.drop 2 [0, 3, 97, 98]) 8 2 = 2 := by decide +kernel
theorem r7e : rawErr (List.drop 2 [0, 3, 97, 98]) 2 = 0 := by decide +kernel
theorem r7p : rawPos (List.drop 2 [0, 3, 97, 98]) 2 2 = 4 := by decide +kernel
theorem r7v : rawVal (List.drop 2 [0, 3, 97, 98]) 2 = [97, 98] := by decide +kernel
theorem rl0 : (((List.length ([0, 3, 97, 98] : List UInt8)) - 0 : Nat) : Int) = 4 := by decide +kernel
theorem ne2 : (if 2 = List.length ([0, 3, 97, 98] : List UInt8) then (0 : Int) else 10) = 10 := by decide +kernel
theorem ne4 : (if 4 = List.length ([0, 3, 97, 98] : List UInt8) then (0 : Int) else 10) = 0 := by decide +kernel

/-- What was written to a new writer has turned nothing that was there. -/
theorem wrote_new {W w w' : World} {v v' : Value} {xs ys : List UInt8} (hC : Chg (fun _ => False) W w) (hW : Wtr w (W.heap.size + 1) W.heap.size v xs) (hR : Wrote w w' (W.heap.size + 1) W.heap.size v v' ys) : Chg (fun _ => False) W w' :=
  hC.trans hR.chg (fun _ _ h => h) (fun i hi h => h.elim (fun e => by omega) (fun e => by have := (hW.owns.lt _ e).1; omega))

theorem chg_at {W w w' : World} {b : Nat} (hb : W.heap.size ≤ b) (hC : Chg (fun _ => False) W w) (h : Chg (fun j => j = b) w w') : Chg (fun _ => False) W w' :=
  hC.trans h (fun _ _ h => h) (fun i hi h => by omega)


set_option maxRecDepth 100000 in
set_option maxHeartbeats 2000000 in
theorem octetNames_walk (W : World) : Calls Try.prog 8 #[] W (True_ W) := by
  have hW0 := Wtr.new W 26
  have hC0 := (Chg.refl (fun _ => False) W).alloc (.cells #[.slice none 0 0] 26)
  have hmk : ∀ w, (Instr.makeSlice 24 (.int .i64 65536) (.int .i64 65536)).run Try.prog w = .ok (.slice (some ⟨w.heap.size, 0, none⟩) 65536 65536) (w.alloc (.cells (madeCells #[.int .u8 0] 65536) 5)) := run_make_row' (P := Try.prog) 24 5 (.int .u8 0) 1 Try.underlying24 Try.info5 rfl .i64 .i64 65536 (by decide) (by decide)
  go_enter Try.func8, Try.ntmps8
  have h1 := num_any 1 256 W.heap.size (W.heap.size + 1) _ _ _ (by decide) (by decide) hW0 (by decide) (Nat.succ_le_of_lt (cell_lt hW0.cell))
  rw [nm1, nb1] at h1
  go_wp2_with fail
  refine h1.mono ?_
  clear h1
  rintro e w1 ⟨rfl, v1, hR1⟩
  have hC1 := wrote_new hC0 hW0 hR1
  have hW1 := hR1.wtr
  clear hR1 hW0 hC0
  have h2 := num_any 3 1 W.heap.size (W.heap.size + 1) _ _ _ (by decide) (by decide) hW1 (by decide) (Nat.succ_le_of_lt (cell_lt hW1.cell))
  rw [nm2, nb2] at h2
  go_wp2_with fail
  refine h2.mono ?_
  clear h2
  rintro e w2 ⟨rfl, v2, hR2⟩
  have hC2 := wrote_new hC1 hW1 hR2
  have hW2 := hR2.wtr
  clear hR2 hW1 hC1
  have h3 := num_any 4 4294967296 W.heap.size (W.heap.size + 1) _ _ _ (by decide) (by decide) hW2 (by decide) (Nat.succ_le_of_lt (cell_lt hW2.cell))
  rw [nm3, nb3] at h3
  go_wp2_with fail
  refine h3.mono ?_
  clear h3
  rintro e w3 ⟨rfl, v3, hR3⟩
  have hC3 := wrote_new hC2 hW2 hR3
  have hW3 := hR3.wtr
  clear hR3 hW2 hC2
  have h4 := num_any 8 18446744073709551615 W.heap.size (W.heap.size + 1) _ _ _ (by decide) (by decide) hW3 (by decide) (Nat.succ_le_of_lt (cell_lt hW3.cell))
  rw [nm4, nb4] at h4
  go_wp2_with fail
  refine h4.mono ?_
  clear h4
  rintro e w4 ⟨rfl, v4, hR4⟩
  have hC4 := wrote_new hC3 hW3 hR4
  have hW4 := hR4.wtr
  clear hR4 hW3 hC3
  have h5 := num_any 0 0 W.heap.size (W.heap.size + 1) _ _ _ (by decide) (by decide) hW4 (by decide) (Nat.succ_le_of_lt (cell_lt hW4.cell))
  rw [nm5, nb5] at h5
  go_wp2_with fail
  refine h5.mono ?_
  clear h5
  rintro e w5 ⟨rfl, v5, hR5⟩
  have hC5 := wrote_new hC4 hW4 hR5
  have hW5 := hR5.wtr
  clear hR5 hW4 hC4
  obtain ⟨S, hS, hcv⟩ := made_text 65536 (by decide) w5
  have hC6' := (Chg.refl (fun _ => False) w5).alloc (.cells (madeCells #[.int .u8 0] 65536) 5)
  have hW6 := hW5.chg hC6' id (fun _ _ => id)
  have hC6 := hC5.tr hC6'
  have h6 := text_any S _ _ _ _ _ (by unfold maxLen; omega) hW6 (by decide) (Nat.succ_le_of_lt (cell_lt hW6.cell))
  rw [show textErr S = 10 by unfold textErr; rw [if_pos (by omega)], show textBytes S = [] by unfold textBytes; rw [if_pos (by omega)], List.append_nil] at h6
  clear hS hC6' hW5 hC5
  go_wp2_with fail
  refine h6.mono ?_
  clear h6 hcv hmk
  rintro e w6 ⟨rfl, v6, hR6⟩
  have hC7 := wrote_new hC6 hW6 hR6
  have h7 := len_any _ _ _ _ _ hR6.wtr
  rw [nl5] at h7
  clear hR6 hC6 hW6
  go_wp2_with fail
  refine h7.mono ?_
  clear h7
  rintro e w7 ⟨rfl, rfl⟩
  have hS8 : Sl (w6.alloc (.cells #[.int .u8 0, .int .u8 3, .int .u8 97, .int .u8 98] 5)) (.slice (some ⟨w6.heap.size, 0, none⟩) 4 4) (([0, 3, 97, 98] : List UInt8).map B) := Sl.lit w6 (([0, 3, 97, 98] : List UInt8).map B) 5 (by decide)
  have hC8 := hC7.alloc (.cells #[.int .u8 0, .int .u8 3, .int .u8 97, .int .u8 98] 5)
  have h8 := read_any _ _ _ hS8 (by decide)
  clear hC7 hS8
  go_wp2_with fail
  refine h8.mono ?_
  clear h8
  rintro e w8 ⟨b, v, rfl, hb, -, hR8, hC8'⟩
  replace hb := Nat.le_trans hC8.size hb
  replace hC8 := hC8.tr hC8'
  clear hC8'
  have h9 := rtext_any b v _ _ _ hR8
  rw [r0t, r0p] at h9
  generalize (Value.string ⟨(txtVal (List.drop 0 [0, 3, 97, 98])).toArray⟩) = x9 at h9
  go_wp2_with fail
  refine h9.mono ?_
  clear h9
  rintro e w9 ⟨rfl, hR9, hC9'⟩
  have hC9 := chg_at hb hC8 hC9'
  clear hR8 hC8 hC9'
  have h10 := left_any _ _ _ _ _ hR9
  rw [rl0] at h10
  go_wp2_with fail
  refine h10.mono ?_
  clear h10
  rintro e w10 ⟨rfl, n10, rfl⟩
  have hR10 := hR9.fr ((Chg.refl _ w9).drewN n10)
  have hC10 := hC9.tr ((Chg.refl _ w9).drewN n10)
  clear hR9 hC9
  have h11 := rnum_any 2 b v _ _ _ hR10
  rw [r1, r1e, r1p] at h11
  go_wp2_with fail
  refine h11.mono ?_
  clear h11
  rintro e w11 ⟨rfl, hR11, hC11'⟩
  have hC11 := chg_at hb hC10 hC11'
  clear hR10 hC10 hC11'
  have h12 := rnum_any 4 b v _ _ _ hR11
  rw [r2e, r2p] at h12
  generalize ((rVal (List.drop 2 [0, 3, 97, 98]) 4 : Nat) : Int) = x12 at h12
  go_wp2_with fail
  refine h12.mono ?_
  clear h12
  rintro e w12 ⟨rfl, hR12, hC12'⟩
  have hC12 := chg_at hb hC11 hC12'
  clear hR11 hC11 hC12'
  have h13 := rnum_any 5 b v _ _ _ hR12
  rw [r3e, r3p] at h13
  generalize ((rVal (List.drop 2 [0, 3, 97, 98]) 5 : Nat) : Int) = x13 at h13
  go_wp2_with fail
  refine h13.mono ?_
  clear h13
  rintro e w13 ⟨rfl, hR13, hC13'⟩
  have hC13 := chg_at hb hC12 hC13'
  clear hR12 hC12 hC13'
  have h14 := rraw_any (-1) b v _ _ _ hR13
  rw [r4e, r4p] at h14
  go_wp2_with fail
  refine h14.mono ?_
  clear h14
  rintro e w14 ⟨u14, rfl, -, hR14, hC14'⟩
  have hC14 := chg_at hb hC13 hC14'
  clear hR13 hC13 hC14'
  have h15 := rraw_any 3 b v _ _ _ hR14
  rw [r5e, r5p] at h15
  go_wp2_with fail
  refine h15.mono ?_
  clear h15
  rintro e w15 ⟨u15, rfl, -, hR15, hC15'⟩
  have hC15 := chg_at hb hC14 hC15'
  clear hR14 hC14 hC15'
  have h16 := rint_any b v _ _ _ hR15
  rw [r6e, r6p] at h16
  generalize (IntKind.i64.wrap (rVal (List.drop 2 [0, 3, 97, 98]) 8 : Nat)) = x16 at h16
  go_wp2_with fail
  refine h16.mono ?_
  clear h16
  rintro e w16 ⟨rfl, hR16, hC16'⟩
  have hC16 := chg_at hb hC15 hC16'
  clear hR15 hC15 hC16'
  have h17 := end_any _ _ _ _ _ hR16
  rw [ne2] at h17
  go_wp2_with fail
  refine h17.mono ?_
  clear h17
  rintro e w17 ⟨rfl, n17, rfl⟩
  have hR17 := hR16.fr ((Chg.refl _ w16).drewN n17)
  have hC17 := hC16.tr ((Chg.refl _ w16).drewN n17)
  clear hR16 hC16
  have h18 := rraw_any 2 b v _ _ _ hR17
  rw [r7e, r7p, r7v] at h18
  go_wp2_with fail
  refine h18.mono ?_
  clear h18
  rintro e w18 ⟨u18, rfl, ho18, hR18, hC18'⟩
  have hC18 := chg_at hb hC17 hC18'
  clear hR17 hC17 hC18'
  have hcv := conv_sl (Sl.of_owns ho18)
  have h19 := end_any _ _ _ _ _ hR18
  rw [ne4] at h19
  clear ho18
  go_wp2_with fail
  refine h19.mono ?_
  clear h19
  rintro e w19 ⟨rfl, n19, rfl⟩
  have hR19 := hR18.fr ((Chg.refl _ w18).drewN n19)
  have hC19 := hC18.tr ((Chg.refl _ w18).drewN n19)
  clear hR18 hC18
  clear hcv
  generalize w18.drewN n19 = w20 at *
  have hC20 := hC19.alloc (.cells #[.slice none 0 0, .int .i64 0, .bool false] 65)
  have hZ : NoR (w20.alloc (.cells #[.slice none 0 0, .int .i64 0, .bool false] 65)) (some ⟨w20.heap.size, 0, none⟩) := .inr ⟨_, rfl, new_cell _ _ _ rfl⟩
  have hN : NoR (w20.alloc (.cells #[.slice none 0 0, .int .i64 0, .bool false] 65)) none := .inl rfl
  clear hR19 hC19
  go_wp2_with fail
  refine (rnum_none 1 _ _ hZ).mono ?_
  rintro e w' ⟨rfl, rfl⟩
  go_wp2_with fail
  refine (rtext_none _ _ hN).mono ?_
  rintro e w' ⟨rfl, rfl⟩
  go_wp2_with fail
  refine (rint_none _ _ hZ).mono ?_
  rintro e w' ⟨rfl, rfl⟩
  go_wp2_with fail
  refine (rraw_none 0 _ _ hN).mono ?_
  rintro e w' ⟨rfl, rfl⟩
  go_wp2_with fail
  refine (wnum_none 1 1 _).mono ?_
  rintro e w' ⟨rfl, rfl⟩
  go_wp2_with fail
  refine (wint_none 1 _).mono ?_
  rintro e w' ⟨rfl, rfl⟩
  go_wp2_with fail
  refine (wtext_none _ _).mono ?_
  rintro e w' ⟨rfl, rfl⟩
  go_wp2_with fail
  refine (wraw_none _ _).mono ?_
  rintro e w' ⟨rfl, rfl⟩
  go_wp2_with fail
  refine (wlen_none _).mono ?_
  rintro e w' ⟨rfl, rfl⟩
  go_wp2_with fail
  refine (wbytes_none _).mono ?_
  rintro e w' ⟨rfl, rfl⟩
  go_wp2_with fail
  refine (rleft_none _ _ hZ).mono ?_
  rintro e w' ⟨rfl, rfl⟩
  go_wp2_with fail
  refine (rend_none _ _ hZ).mono ?_
  rintro e w' ⟨rfl, rfl⟩
  go_wp2_with fail
  refine (rend_none _ _ hN).mono ?_
  rintro e w' ⟨rfl, rfl⟩
  have hA := alive_any (w20.alloc (.cells #[.slice none 0 0, .int .i64 0, .bool false] 65))
  go_wp2_with fail
  refine hA.mono ?_
  clear hA
  rintro e w21 ⟨rfl, hC21⟩
  go_wp2
  go_ret
  exact ⟨rfl, hC20.tr hC21⟩
end Go.Proofs.Ytjinbjbcfmhnmaa
