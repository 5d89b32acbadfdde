/- The document's own answers: the sum bit by bit, its bytes, what is sealed, and what is opened. -/
import Derived.Test.YtccpmbonipfmpaaCrcJ
import Derived.Test.YtccpmbonipfmpaaCrcS
import Derived.Test.YtccpmbonipfmpaaRegionH
namespace Go.Proofs.Ytccpmbonipfmpaa
open Go.RowKit

/-- A step with a bit. -/
def stepB (c b : Nat) : Nat := if (c ^^^ b) % 2 = 1 then c / 2 ^^^ 3988292384 else c / 2
theorem stepB_lt {c : Nat} (b : Nat) (h : c < 4294967296) : stepB c b < 4294967296 := by
  unfold stepB
  split
  · exact xor_lt (by omega) (by decide)
  · omega
/-- The first k bits of a byte. -/
def bitsN (c x : Nat) : Nat → Nat
  | 0 => c
  | k + 1 => stepB (bitsN c x k) (x / 2 ^ k % 2)
theorem bitsN_lt {c : Nat} (x : Nat) (h : c < 4294967296) : ∀ k, bitsN c x k < 4294967296
  | 0 => h
  | k + 1 => stepB_lt _ (bitsN_lt x h k)
theorem stepB_eq (c b : Nat) (hb : b < 2) : stepB c b = stepN (c ^^^ b) := by
  have h1 : (c ^^^ b) / 2 = (c / 2) ^^^ (b / 2) := xor_div2 c b 1
  unfold stepB stepN
  rw [h1, show b / 2 = 0 by omega, Nat.xor_zero]
theorem bits_reg (c x : Nat) : ∀ k, bitsN c x k = regN c k ^^^ bitsN 0 x k
  | 0 => by show c = c ^^^ 0; rw [Nat.xor_zero]
  | k + 1 => by
    show stepB (bitsN c x k) _ = stepN (regN c k) ^^^ stepB (bitsN 0 x k) _
    rw [stepB_eq _ _ (by omega), stepB_eq _ _ (by omega), bits_reg c x k, ← stepN_xor, Nat.xor_assoc]
theorem bits_byte : ∀ x, x < 256 → bitsN 0 x 8 = tabN x := by decide +kernel
theorem bits_all (c x : Nat) (hx : x < 256) : bitsN c x 8 = c / 256 ^^^ tabN (c % 256 ^^^ x) := by rw [byte_step, bits_reg, bits_byte x hx]

theorem sub_ones (s : Nat) (h : s < 4294967296) : 4294967295 - s = 4294967295 ^^^ s := by
  have h1 := congrArg BitVec.toNat (BitVec.xor_allOnes (x := BitVec.ofNat 32 s))
  rw [BitVec.toNat_xor, BitVec.toNat_not, BitVec.toNat_allOnes, BitVec.toNat_ofNat, Nat.mod_eq_of_lt (show s < 2 ^ 32 from h)] at h1
  rw [Nat.xor_comm]
  exact h1.symm

set_option maxHeartbeats 400000 in
theorem r2step_any (c b : Nat) (w : World) (hc : c < 4294967296) (hb : b < 4294967296) : Calls Try.prog 55 #[.int .u32 c, .int .u32 b] w fun e w' => e = .returned (.int .u32 (stepB c b : Nat)) ∧ w = w' := by
  have hx := xor_u32 c b hc hb
  have hy : bits .xor .u32 ((c : Int) / 2) 3988292384 = ((c / 2 ^^^ 3988292384 : Nat) : Int) := by
    rw [show (c : Int) / 2 = ((c / 2 : Nat) : Int) by omega]; exact xor_u32 _ _ (by omega) (by decide)
  have e2 : ((c / 2 : Nat) : Int) = (c : Int) / 2 := by omega
  unfold stepB
  generalize c ^^^ b = q at *
  by_cases h : q % 2 = 1
  · have h' : (q : Int) % 2 = 1 := by omega
    rw [if_pos h]
    go_enter Try.func55, Try.ntmps55
    go_wp2
    go_ret
    exact ⟨rfl, rfl⟩
  · have h' : (q : Int) % 2 = 0 := by omega
    rw [if_neg h, e2]
    go_enter Try.func55, Try.ntmps55
    go_wp2
    go_ret
    exact ⟨rfl, rfl⟩

theorem sub_wrap (s : Nat) (h : s < 4294967296) : IntKind.u32.wrap (4294967295 - (s : Int)) = ((4294967295 ^^^ s : Nat) : Int) := by
  rw [← sub_ones s h, show (4294967295 : Int) - (s : Int) = ((4294967295 - s : Nat) : Int) by omega]
  exact wrap_u32n (by omega)

set_option maxRecDepth 100000 in
set_option maxHeartbeats 1000000 in
theorem r2more_any (s : Nat) (u : Value) (xs : List UInt8) (w : World) (hs : s < 4294967296) (hS : Sl w u (xs.map B)) (hl : xs.length ≤ 140737488355328) :
    Calls Try.prog 46 #[.int .u32 s, u] w fun e w' => e = .returned (.int .u32 (moreN s xs : Nat)) ∧ w = w' := by
  obtain ⟨ao, c, rfl, _⟩ := hS.form
  rw [List.length_map] at hS
  rw [List.length_map]
  have HS := Lib.hid hS
  clear hS
  have e0 := sub_wrap s hs
  have e0' : (4294967295 : Int) - (s : Int) = ((4294967295 ^^^ s : Nat) : Int) := by rw [← sub_ones s hs]; omega
  have hs' : 4294967295 ^^^ s < 4294967296 := xor_lt (by decide) hs
  obtain ⟨q0, hq0⟩ : ∃ q0, 4294967295 ^^^ s = q0 := ⟨_, rfl⟩
  have HQ := Lib.hid hq0
  rw [hq0] at e0 e0' hs'
  clear hq0
  obtain ⟨n, hn⟩ : ∃ n, xs.length = n := ⟨_, rfl⟩
  have HN := Lib.hid hn
  rw [hn] at hl HS
  rw [hn]
  clear hn
  go_enter Try.func46, Try.ntmps46
  go_wp2
  go_loopw [5, 6] (fun x i wr => ∃ k : Nat, k ≤ n ∧ x = .int .u32 (sumN q0 (xs.take k) : Nat) ∧ i = .int .i64 k ∧ wr = w)
    (fun _ i _ => n - (intOf i).toNat)
  case atStart => exact ⟨0, Nat.zero_le _, by first | rfl | (simp only [e0]; rfl), rfl, rfl⟩
  case round =>
    obtain ⟨k, hk, rfl, rfl, rfl⟩ := hrel
    have hq : sumN q0 (xs.take k) < 4294967296 := sumN_lt _ hs'
    by_cases hlt : k < n
    · have hlx : k < xs.length := by rw [HN.out]; exact hlt
      have hnx : sumN q0 (xs.take (k + 1)) = bitsN (sumN q0 (xs.take k)) xs[k].toNat 8 := by
        rw [List.take_succ_eq_append_getElem hlx, sumN_snoc, bits_all _ _ xs[k].toNat_lt]
      generalize sumN q0 (xs.take k) = q at *
      obtain ⟨b1, o1, c1, e1, hcl⟩ := HS.out.at (j := k) (by rw [List.length_map]; exact hlx)
      injection e1 with e1 e2 e3
      subst e1
      rw [List.getElem_map] at hcl
      generalize xs[k] = x at *
      unfold B at hcl
      have hx := x.toNat_lt
      have hwx : IntKind.u32.wrap (x.toNat : Int) = x.toNat := wrap_u32n (by omega)
      generalize x.toNat = y at *
      have hlt' : (k : Int) < (n : Int) := by omega
      have HNX := Lib.hid hnx
      clear e2 e3 hnx
      go_wp2
      go_loopw [5, 7, 8] (fun p z j wr' => ∃ i : Nat, i ≤ 8 ∧ p = .int .u32 (bitsN q y i : Nat) ∧ z = .int .u32 ((y / 2 ^ i : Nat) : Int) ∧ j = .int .i64 i ∧ wr' = wr)
        (fun _ _ j _ => 8 - (intOf j).toNat)
      case atStart => exact ⟨0, Nat.zero_le _, rfl, by simp, rfl, rfl⟩
      case round =>
        obtain ⟨i, hi, rfl, rfl, rfl, rfl⟩ := hrel
        have hp := bitsN_lt y hq i
        by_cases hli : i < 8
        · have hst := fun w => r2step_any (bitsN q y i) (y / 2 ^ i % 2) w hp (by omega)
          have hn1 : stepB (bitsN q y i) (y / 2 ^ i % 2) = bitsN q y (i + 1) := rfl
          have hn2 : y / 2 ^ (i + 1) = y / 2 ^ i / 2 := by rw [Nat.pow_succ, Nat.div_div_eq_div_mul]
          simp only [hn1] at hst
          have hzb : y / 2 ^ i < 256 := Nat.lt_of_le_of_lt (Nat.div_le_self _ _) hx
          generalize bitsN q y i = p at *
          generalize y / 2 ^ i = z at *
          have hz : ((z % 2 : Nat) : Int) = (z : Int) % 2 := by omega
          simp only [hz] at hst
          have hli' : (i : Int) < 8 := by omega
          go_wp2_with (go_at_call 55; (with_reducible refine (hst _).mono ?_); rintro e w' ⟨rfl, rfl⟩)
          go_roundw
          case rel => exact ⟨i + 1, by omega, rfl, by rw [hn2]; congr 1, by go_num, trivial⟩
          case measure => first | (simp [intOf]; done) | (simp [intOf]; omega)
        · obtain rfl : i = 8 := by omega
          rw [← HNX.out]
          go_wp2
          go_roundw
          case rel => exact ⟨k + 1, by omega, rfl, by go_num, trivial⟩
          case measure => first | (simp [intOf]; done) | (simp [intOf]; omega)
    · obtain rfl : n = k := by omega
      rw [← HN.out, List.take_length] at hq ⊢
      have e2 := sub_wrap _ hq
      have e3 : (4294967295 : Int) - (sumN q0 xs : Nat) = ((4294967295 ^^^ sumN q0 xs : Nat) : Int) := by rw [← sub_ones _ hq]; omega
      go_wp2
      go_ret
      refine ⟨?_, rfl⟩
      unfold moreN
      rw [HQ.out]
      rfl

set_option maxHeartbeats 400000 in
theorem r2of_any (u : Value) (xs : List UInt8) (w : World) (hS : Sl w u (xs.map B)) (hl : xs.length ≤ 140737488355328) : Calls Try.prog 30 #[u] w fun e w' => e = .returned (.int .u32 (moreN 0 xs : Nat)) ∧ w = w' := by
  obtain ⟨m, hm⟩ : ∃ m, moreN 0 xs = m := ⟨_, rfl⟩
  have h := r2more_any 0 u xs w (by decide) hS hl
  rw [hm] at h ⊢
  clear hm
  obtain ⟨ao, c, rfl, _⟩ := hS.form
  rw [Int.natCast_zero, List.length_map] at h
  rw [List.length_map]
  clear hS
  go_enter Try.func30, Try.ntmps30
  go_wp2_with fail
  refine h.mono ?_
  rintro e w1 ⟨rfl, rfl⟩
  go_wp2
  go_ret
  exact ⟨rfl, rfl⟩

theorem be4 (m : Nat) : be 4 m = [UInt8.ofNat (m / 16777216), UInt8.ofNat (m / 65536 % 256), UInt8.ofNat (m / 256 % 256), UInt8.ofNat (m % 256)] := by
  have h1 : ∀ q, UInt8.ofNat (q % 256) = UInt8.ofNat q := fun q => by
    apply UInt8.toNat_inj.1
    simp
  rw [h1, h1, h1]
  show [UInt8.ofNat (m / 2 ^ 24), UInt8.ofNat (m / 2 ^ 16), UInt8.ofNat (m / 2 ^ 8), UInt8.ofNat (m / 2 ^ 0)] = _
  simp
theorem B_nat (q : Nat) (h : q < 256) : B (UInt8.ofNat q) = .int .u8 (q : Int) := by
  rw [B_ofNat, IntKind.wrap_u8]
  congr 1
  omega

set_option maxHeartbeats 400000 in
theorem four_any (m : Nat) (w : World) (hm : m < 4294967296) : Calls Try.prog 29 #[.int .u32 m] w (GaveB w (be 4 m)) := by
  have w1 : IntKind.u8.wrap ((m : Int) / 16777216) = (m : Int) / 16777216 := by rw [IntKind.wrap_u8]; omega
  have w2 : IntKind.u8.wrap ((m : Int) / 65536 % 256) = (m : Int) / 65536 % 256 := by rw [IntKind.wrap_u8]; omega
  have w3 : IntKind.u8.wrap ((m : Int) / 256 % 256) = (m : Int) / 256 % 256 := by rw [IntKind.wrap_u8]; omega
  have w4 : IntKind.u8.wrap ((m : Int) % 256) = (m : Int) % 256 := by rw [IntKind.wrap_u8]; omega
  have hO : (w.alloc (.cells #[.int .u8 ((m : Int) / 16777216), .int .u8 ((m : Int) / 65536 % 256), .int .u8 ((m : Int) / 256 % 256), .int .u8 ((m : Int) % 256)] 5)).ownsRow w.heap.size 5 1 (.slice (some ⟨w.heap.size, 0, none⟩) 4 4) 4 ((be 4 m).map B) := by
    have h := World.ownsRow_lit (e := 5) (size := 1) w #[.int .u8 ((m : Int) / 16777216), .int .u8 ((m : Int) / 65536 % 256), .int .u8 ((m : Int) / 256 % 256), .int .u8 ((m : Int) % 256)] 4 (Nat.le_refl _) (by decide) rfl
    rw [be4 m, List.map_cons, List.map_cons, List.map_cons, List.map_cons, List.map_nil, B_nat _ (by omega), B_nat _ (by omega), B_nat _ (by omega), B_nat _ (by omega)]
    have e1 : ((m / 16777216 : Nat) : Int) = (m : Int) / 16777216 := by omega
    have e2 : ((m / 65536 % 256 : Nat) : Int) = (m : Int) / 65536 % 256 := by omega
    have e3 : ((m / 256 % 256 : Nat) : Int) = (m : Int) / 256 % 256 := by omega
    have e4 : ((m % 256 : Nat) : Int) = (m : Int) % 256 := by omega
    rw [e1, e2, e3, e4]
    exact h
  have hC := (Chg.refl (fun _ => False) w).alloc (.cells #[.int .u8 ((m : Int) / 16777216), .int .u8 ((m : Int) / 65536 % 256), .int .u8 ((m : Int) / 256 % 256), .int .u8 ((m : Int) % 256)] 5)
  have hl : (be 4 m).length = 4 := be_length 4 m
  go_enter Try.func29, Try.ntmps29
  go_wp2
  go_ret
  refine ⟨_, rfl, ?_, hC⟩
  rw [hl]
  exact hO

theorem oneCell_B' (l : List UInt8) : ∀ u ∈ l.map B, u.oneCell' = true := fun u hu => by
  obtain ⟨x, _, rfl⟩ := List.mem_map.1 hu
  rfl

theorem seal_eq (xs : List UInt8) (k : Nat) : sealL (xs.take k) = xs ↔ be 4 (moreN 0 (xs.take k)) = xs.drop k := by
  unfold sealL
  constructor
  · intro h
    have h1 := congrArg (List.drop k) h
    by_cases hk : k ≤ xs.length
    · rw [List.drop_append_of_le_length (by rw [List.length_take]; omega), List.drop_take_self, List.nil_append] at h1
      exact h1
    · have h2 := congrArg List.length h
      rw [List.length_append, List.length_take, be_length] at h2
      omega
  · intro h
    rw [h, List.take_append_drop]

end Go.Proofs.Ytccpmbonipfmpaa
