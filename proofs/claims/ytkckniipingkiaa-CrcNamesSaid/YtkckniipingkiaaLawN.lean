/- CrcNames' walk: the examples of the chapter. -/
import Derived.Test.YtkckniipingkiaaCrcT
import Derived.Test.YtkckniipingkiaaCrcS
import Derived.Deep.OwnRows
namespace Go.Proofs.Ytkckniipingkiaa
open Go.RowKit

theorem nv_a : ((moreN 0 [49, 50, 51, 52] : Nat) : Int) = 2615402659 := by decide +kernel
theorem nv_b : ((moreN 0 [53, 54, 55, 56, 57] : Nat) : Int) = 320708720 := by decide +kernel
theorem nv_c : ((moreN 0 [97] : Nat) : Int) = 3904355907 := by decide +kernel
theorem nv_d : ((moreN 0 [97, 98, 99] : Nat) : Int) = 891568578 := by decide +kernel
theorem nv_m : ((moreN 2615402659 [53, 54, 55, 56, 57] : Nat) : Int) = 3421780262 := by decide +kernel
theorem nv_j : ((regN 2615402659 (8 * 5) ^^^ 320708720 : Nat) : Int) = 3421780262 := by decide +kernel
theorem nv_k : ((regN 5 (8 * 0) ^^^ 0 : Nat) : Int) = 5 := by decide +kernel
theorem nv_s : sealL [] = [0, 0, 0, 0] := by decide +kernel
theorem nv_o : openL [0, 0, 0, 0] = [] ∧ openE [0, 0, 0, 0] = 0 := by decide +kernel
theorem nv_p : openL [0, 0, 0] = [] ∧ openE [0, 0, 0] = 20 := by decide +kernel
theorem nv_q : openL [0, 0, 0, 1] = [] ∧ openE [0, 0, 0, 1] = 20 := by decide +kernel

theorem join_some (f s : Nat) (n : Int) (w : World) (hf : f < 4294967296) (hs : s < 4294967296) (h0 : 0 ≤ n) (hn : n < 9223372036854775808) :
    ∃ v : Int, Calls Try.prog 10 #[.int .u32 f, .int .u32 s, .int .i64 n] w fun e w' => e = .returned (.tuple #[.int .u32 v, .int .i64 0]) ∧ w = w' := by
  have h := join_any f s n w hf hs hn
  rw [if_neg (by omega)] at h
  exact ⟨_, h⟩
theorem join_neg (f s : Nat) (n : Int) (w : World) (hf : f < 4294967296) (hs : s < 4294967296) (h0 : n < 0) :
    Calls Try.prog 10 #[.int .u32 f, .int .u32 s, .int .i64 n] w fun e w' => e = .returned (.tuple #[.int .u32 0, .int .i64 2]) ∧ w = w' := by
  have h := join_any f s n w hf hs (by omega)
  rw [if_pos h0] at h
  exact h
theorem join_pos (f s k : Nat) (v : Int) (w : World) (hf : f < 4294967296) (hs : s < 4294967296) (hn : (k : Int) < 9223372036854775808) (hv : ((regN f (8 * k) ^^^ s : Nat) : Int) = v) :
    Calls Try.prog 10 #[.int .u32 f, .int .u32 s, .int .i64 k] w fun e w' => e = .returned (.tuple #[.int .u32 v, .int .i64 0]) ∧ w = w' := by
  have h := join_any f s k w hf hs hn
  rw [if_neg (by omega), Int.toNat_natCast, hv] at h
  exact h

theorem made3 : madeCells #[Value.int .u8 0] 3 = #[.int .u8 0, .int .u8 0, .int .u8 0] := by kernel_rfl
set_option maxRecDepth 100000 in
set_option maxHeartbeats 2000000 in
theorem crcNames_walk (w0 : World) : Calls Try.prog 7 #[] w0 (True_ w0) := by
  have hC0 := Chg.refl (fun _ => False) w0
  have hcv := fun (w : World) (C : Array Value) (n c : Nat) => Lib.run_convert_bytes_const (P := Try.prog) w 22 5 C n c Try.underlying22 Try.underlying5
  have hmk : ∀ w, (Instr.makeSlice 22 (.int .i64 3) (.int .i64 3)).run Try.prog w = .ok (.slice (some ⟨w.heap.size, 0, none⟩) 3 3) (w.alloc (.cells #[.int .u8 0, .int .u8 0, .int .u8 0] 5)) := fun w => by
    have h := run_make_row' (P := Try.prog) 22 5 (.int .u8 0) 1 Try.underlying22 Try.info5 rfl .i64 .i64 3 (by decide) (by decide) w
    rw [made3] at h
    exact h
  go_enter Try.func7, Try.ntmps7
  have hS1 : Sl (w0.alloc (.cells #[.int .u8 49, .int .u8 50, .int .u8 51, .int .u8 52] 5 (4, 5))) (.slice (some ⟨w0.heap.size, 0, none⟩) 4 4) (([49, 50, 51, 52] : List UInt8).map B) := Sl.mark w0 (([49, 50, 51, 52] : List UInt8).map B) 5 (4, 5) (by decide)
  have hD1 := hC0.alloc (.cells #[.int .u8 49, .int .u8 50, .int .u8 51, .int .u8 52] 5 (4, 5))
  have h1 := of_any _ _ _ hS1 (by decide)
  rw [nv_a] at h1
  go_wp2_with fail
  refine h1.mono ?_
  clear h1
  rintro e w1 ⟨rfl, hN⟩
  have hC1 := hD1.tr hN
  clear hN
  have hS2 : Sl (w1.alloc (.cells #[.int .u8 53, .int .u8 54, .int .u8 55, .int .u8 56, .int .u8 57] 5 (5, 6))) (.slice (some ⟨w1.heap.size, 0, none⟩) 5 5) (([53, 54, 55, 56, 57] : List UInt8).map B) := Sl.mark w1 (([53, 54, 55, 56, 57] : List UInt8).map B) 5 (5, 6) (by decide)
  have hD2 := hC1.alloc (.cells #[.int .u8 53, .int .u8 54, .int .u8 55, .int .u8 56, .int .u8 57] 5 (5, 6))
  have h2 := more_any 2615402659 _ _ _ (by decide) hS2 (by decide)
  rw [nv_m, show ((2615402659 : Nat) : Int) = 2615402659 from rfl] at h2
  go_wp2_with fail
  refine h2.mono ?_
  clear h2
  rintro e w2 ⟨rfl, hN⟩
  have hC2 := hD2.tr hN
  clear hN
  have hS3 : Sl (w2.alloc (.cells #[.int .u8 49, .int .u8 50, .int .u8 51, .int .u8 52] 5 (4, 5))) (.slice (some ⟨w2.heap.size, 0, none⟩) 4 4) (([49, 50, 51, 52] : List UInt8).map B) := Sl.mark w2 (([49, 50, 51, 52] : List UInt8).map B) 5 (4, 5) (by decide)
  have hD3 := hC2.alloc (.cells #[.int .u8 49, .int .u8 50, .int .u8 51, .int .u8 52] 5 (4, 5))
  have h3 := of_any _ _ _ hS3 (by decide)
  rw [nv_a] at h3
  go_wp2_with fail
  refine h3.mono ?_
  clear h3
  rintro e w3 ⟨rfl, hN⟩
  have hC3 := hD3.tr hN
  clear hN
  have hS4 : Sl (w3.alloc (.cells #[.int .u8 53, .int .u8 54, .int .u8 55, .int .u8 56, .int .u8 57] 5 (5, 6))) (.slice (some ⟨w3.heap.size, 0, none⟩) 5 5) (([53, 54, 55, 56, 57] : List UInt8).map B) := Sl.mark w3 (([53, 54, 55, 56, 57] : List UInt8).map B) 5 (5, 6) (by decide)
  have hD4 := hC3.alloc (.cells #[.int .u8 53, .int .u8 54, .int .u8 55, .int .u8 56, .int .u8 57] 5 (5, 6))
  have h4 := of_any _ _ _ hS4 (by decide)
  rw [nv_b] at h4
  go_wp2_with fail
  refine h4.mono ?_
  clear h4
  rintro e w4 ⟨rfl, hN⟩
  have hC4 := hD4.tr hN
  clear hN
  go_wp2_with fail
  refine (join_pos 2615402659 320708720 5 _ w4 (by decide) (by decide) (by decide) nv_j).mono ?_
  rintro e w' ⟨rfl, rfl⟩
  go_wp2_with fail
  refine (join_pos 5 0 0 _ w4 (by decide) (by decide) (by decide) nv_k).mono ?_
  rintro e w' ⟨rfl, rfl⟩
  go_wp2_with fail
  refine (join_neg 1 2 (-1) w4 (by decide) (by decide) (by decide)).mono ?_
  rintro e w' ⟨rfl, rfl⟩
  obtain ⟨v5, h5⟩ := join_some 1 2 4611686018427387904 w4 (by decide) (by decide) (by decide) (by decide)
  go_wp2_with fail
  refine (h5).mono ?_
  rintro e w' ⟨rfl, rfl⟩
  clear h5
  have h6 := seal_any _ [] w4 (Sl.nil w4) (by decide)
  rw [nv_s] at h6
  go_wp2_with fail
  refine h6.mono ?_
  clear h6
  rintro e w6 ⟨v6, rfl, ho6, hN⟩
  have hC6 := hC4.tr hN
  clear hN
  have h7 := open_any v6 _ w6 (Sl.of_owns ho6) (by decide)
  rw [nv_o.1, nv_o.2] at h7
  go_wp2_with fail
  refine h7.mono ?_
  clear h7
  rintro e w7 ⟨v7, rfl, ho7, hN⟩
  have hC7 := hC6.tr hN
  have hV6 := (Sl.of_owns ho6).fr hN
  obtain ⟨ao7, L7, c7, rfl, hL7⟩ := owns_name ho7
  obtain rfl : L7 = 0 := hL7.out
  clear hN ho6 ho7 hL7
  have hS8 : Sl (w7.alloc (.cells #[.int .u8 0, .int .u8 0, .int .u8 0] 5)) (.slice (some ⟨w7.heap.size, 0, none⟩) 3 3) (([0, 0, 0] : List UInt8).map B) := Sl.lit w7 (([0, 0, 0] : List UInt8).map B) 5 (by decide)
  have hD8 := (Chg.refl (fun _ => False) w7).alloc (.cells #[.int .u8 0, .int .u8 0, .int .u8 0] 5)
  have h8 := open_any _ _ _ hS8 (by decide)
  rw [nv_p.1, nv_p.2] at h8
  go_wp2_with fail
  refine h8.mono ?_
  clear h8
  rintro e w8 ⟨v8, rfl, _, hN⟩
  have hC8 := (hC7.tr hD8).tr hN
  have hV8 := hV6.fr (hD8.tr hN)
  clear hN hV6
  have hS9 : Sl (w8.alloc (.cells #[.int .u8 0, .int .u8 0, .int .u8 0, .int .u8 1] 5)) (.slice (some ⟨w8.heap.size, 0, none⟩) 4 4) (([0, 0, 0, 1] : List UInt8).map B) := Sl.lit w8 (([0, 0, 0, 1] : List UInt8).map B) 5 (by decide)
  have hD9 := (Chg.refl (fun _ => False) w8).alloc (.cells #[.int .u8 0, .int .u8 0, .int .u8 0, .int .u8 1] 5)
  have h9 := open_any _ _ _ hS9 (by decide)
  rw [nv_q.1, nv_q.2] at h9
  go_wp2_with fail
  refine h9.mono ?_
  clear h9
  rintro e w9 ⟨v9, rfl, _, hN⟩
  have hC9 := (hC8.tr hD9).tr hN
  have hV9 := hV8.fr (hD9.tr hN)
  clear hN hV8
  have h10 := alive_any w9
  go_wp2_with fail
  refine h10.mono ?_
  clear h10
  rintro e w10 ⟨rfl, hN⟩
  have hC10 := hC9.tr hN
  have hstr := run_convert_sl (P := Try.prog) 22 9 5 Try.underlying22 Try.underlying5 Try.underlying9 (hV9.fr hN)
  clear hN hV9
  have hS11 : Sl (w10.alloc (.cells #[.int .u8 97] 5 (1, 2))) (.slice (some ⟨w10.heap.size, 0, none⟩) 1 1) (([97] : List UInt8).map B) := Sl.mark w10 (([97] : List UInt8).map B) 5 (1, 2) (by decide)
  have hD11 := hC10.alloc (.cells #[.int .u8 97] 5 (1, 2))
  have h11 := of_any _ _ _ hS11 (by decide)
  rw [nv_c] at h11
  go_wp2_with fail
  refine h11.mono ?_
  clear h11
  rintro e w11 ⟨rfl, hN⟩
  have hC11 := hD11.tr hN
  clear hN
  clear hstr
  have hS12 : Sl (w11.alloc (.cells #[.int .u8 97, .int .u8 98, .int .u8 99] 5 (3, 4))) (.slice (some ⟨w11.heap.size, 0, none⟩) 3 3) (([97, 98, 99] : List UInt8).map B) := Sl.mark w11 (([97, 98, 99] : List UInt8).map B) 5 (3, 4) (by decide)
  have hD12 := hC11.alloc (.cells #[.int .u8 97, .int .u8 98, .int .u8 99] 5 (3, 4))
  have h12 := of_any _ _ _ hS12 (by decide)
  rw [nv_d] at h12
  go_wp2_with fail
  refine h12.mono ?_
  clear h12
  rintro e w12 ⟨rfl, hN⟩
  have hC12 := hD12.tr hN
  clear hN
  go_wp2
  go_ret
  exact ⟨rfl, hC12⟩
end Go.Proofs.Ytkckniipingkiaa
