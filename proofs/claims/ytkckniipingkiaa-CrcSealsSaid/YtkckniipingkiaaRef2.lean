/- The document's own answers: the sum bit by bit, its bytes, what is sealed, and what is opened. -/
import Derived.Test.YtkckniipingkiaaCrcJ
import Derived.Test.YtkckniipingkiaaCrcS
import Derived.Test.YtkckniipingkiaaRegionH
namespace Go.Proofs.Ytkckniipingkiaa
open Go.RowKit

/-- A step with a bit. -/
def stepB (c b : Nat) : Nat := if (c ^^^ b) % 2 = 1 then c / 2 ^^^ 3988292384 else c / 2
theorem stepB_lt {c : Nat} (b : Nat) (h : c < 4294967296) : stepB c b < 4294967296 := by
  unfold stepB
  split
  · exact xor_lt (by omega) (by decide)
  · omega
/-- The first k bits of a byte. -/
def bitsN (c x : Nat) : Nat → Nat
  | 0 => c
  | k + 1 => stepB (bitsN c x k) (x / 2 ^ k % 2)
theorem bitsN_lt {c : Nat} (x : Nat) (h : c < 4294967296) : ∀ k, bitsN c x k < 4294967296
  | 0 => h
  | k + 1 => stepB_lt _ (bitsN_lt x h k)
theorem stepB_eq (c b : Nat) (hb : b < 2) : stepB c b = stepN (c ^^^ b) := by
  have h1 : (c ^^^ b) / 2 = (c / 2) ^^^ (b / 2) := xor_div2 c b 1
  unfold stepB stepN
  rw [h1, show b / 2 = 0 by omega, Nat.xor_zero]
theorem bits_reg (c x : Nat) : ∀ k, bitsN c x k = regN c k ^^^ bitsN 0 x k
  | 0 => by show c = c ^^^ 0; rw [Nat.xor_zero]
  | k + 1 => by
    show stepB (bitsN c x k) _ = stepN (regN c k) ^^^ stepB (bitsN 0 x k) _
    rw [stepB_eq _ _ (by omega), stepB_eq _ _ (by omega), bits_reg c x k, ← stepN_xor, Nat.xor_assoc]
theorem bits_byte : ∀ x, x < 256 → bitsN 0 x 8 = tabN x := by decide +kernel
theorem bits_all (c x : Nat) (hx : x < 256) : bitsN c x 8 = c / 256 ^^^ tabN (c % 256 ^^^ x) := by rw [byte_step, bits_reg, bits_byte x hx]

theorem sub_ones (s : Nat) (h : s < 4294967296) : 4294967295 - s = 4294967295 ^^^ s := by
  have h1 := congrArg BitVec.toNat (BitVec.xor_allOnes (x := BitVec.ofNat 32 s))
  rw [BitVec.toNat_xor, BitVec.toNat_not, BitVec.toNat_allOnes, BitVec.toNat_ofNat, Nat.mod_eq_of_lt (show s < 2 ^ 32 from h)] at h1
  rw [Nat.xor_comm]
  exact h1.symm

set_option maxHeartbeats 400000 in
theorem r2step_any (c b : Nat) (w : World) (hc : c < 4294967296) (hb : b < 4294967296) : Calls Try.prog 31 #[.int .u32 c, .int .u32 b] w fun e w' => e = .returned (.int .u32 (stepB c b : Nat)) ∧ w = w' := by
  have hx := xor_u32 c b hc hb
  have hy : bits .xor .u32 ((c : Int) / 2) 3988292384 = ((c / 2 ^^^ 3988292384 : Nat) : Int) := by
    rw [show (c : Int) / 2 = ((c / 2 : Nat) : Int) by omega]; exact xor_u32 _ _ (by omega) (by decide)
  have e2 : ((c / 2 : Nat) : Int) = (c : Int) / 2 := by omega
  unfold stepB
  generalize c ^^^ b = q at *
  by_cases h : q % 2 = 1
  · have h' : (q : Int) % 2 = 1 := by omega
    rw [if_pos h]
    go_enter Try.func31, Try.ntmps31
    go_wp2
    go_ret
    exact ⟨rfl, rfl⟩
  · have h' : (q : Int) % 2 = 0 := by omega
    rw [if_neg h, e2]
    go_enter Try.func31, Try.ntmps31
    go_wp2
    go_ret
    exact ⟨rfl, rfl⟩

theorem sub_wrap (s : Nat) (h : s < 4294967296) : IntKind.u32.wrap (4294967295 - (s : Int)) = ((4294967295 ^^^ s : Nat) : Int) := by
  rw [← sub_ones s h, show (4294967295 : Int) - (s : Int) = ((4294967295 - s : Nat) : Int) by omega]
  exact wrap_u32n (by omega)

set_option maxRecDepth 100000 in
set_option maxHeartbeats 1000000 in
theorem r2more_any (s : Nat) (u : Value) (xs : List UInt8) (w : World) (hs : s < 4294967296) (hS : Sl w u (xs.map B)) (hl : xs.length ≤ 140737488355328) :
    Calls Try.prog 29 #[.int .u32 s, u] w fun e w' => e = .returned (.int .u32 (moreN s xs : Nat)) ∧ w = w' := by
  obtain ⟨ao, c, rfl, _⟩ := hS.form
  rw [List.length_map] at hS
  rw [List.length_map]
  have HS := Lib.hid hS
  clear hS
  have e0 := sub_wrap s hs
  have e0' : (4294967295 : Int) - (s : Int) = ((4294967295 ^^^ s : Nat) : Int) := by rw [← sub_ones s hs]; omega
  have hs' : 4294967295 ^^^ s < 4294967296 := xor_lt (by decide) hs
  obtain ⟨q0, hq0⟩ : ∃ q0, 4294967295 ^^^ s = q0 := ⟨_, rfl⟩
  have HQ := Lib.hid hq0
  rw [hq0] at e0 e0' hs'
  clear hq0
  obtain ⟨n, hn⟩ : ∃ n, xs.length = n := ⟨_, rfl⟩
  have HN := Lib.hid hn
  rw [hn] at hl HS
  rw [hn]
  clear hn
  go_enter Try.func29, Try.ntmps29
  go_wp2
  go_loopw [5, 6] (fun x i wr => ∃ k : Nat, k ≤ n ∧ x = .int .u32 (sumN q0 (xs.take k) : Nat) ∧ i = .int .i64 k ∧ wr = w)
    (fun _ i _ => n - (intOf i).toNat)
  case atStart => exact ⟨0, Nat.zero_le _, by first | rfl | (simp only [e0]; rfl), rfl, rfl⟩
  case round =>
    obtain ⟨k, hk, rfl, rfl, rfl⟩ := hrel
    have hq : sumN q0 (xs.take k) < 4294967296 := sumN_lt _ hs'
    by_cases hlt : k < n
    · have hlx : k < xs.length := by rw [HN.out]; exact hlt
      have hnx : sumN q0 (xs.take (k + 1)) = bitsN (sumN q0 (xs.take k)) xs[k].toNat 8 := by
        rw [List.take_succ_eq_append_getElem hlx, sumN_snoc, bits_all _ _ xs[k].toNat_lt]
      generalize sumN q0 (xs.take k) = q at *
      obtain ⟨b1, o1, c1, e1, hcl⟩ := HS.out.at (j := k) (by rw [List.length_map]; exact hlx)
      injection e1 with e1 e2 e3
      subst e1
      rw [List.getElem_map] at hcl
      generalize xs[k] = x at *
      unfold B at hcl
      have hx := x.toNat_lt
      have hwx : IntKind.u32.wrap (x.toNat : Int) = x.toNat := wrap_u32n (by omega)
      generalize x.toNat = y at *
      have hlt' : (k : Int) < (n : Int) := by omega
      have HNX := Lib.hid hnx
      clear e2 e3 hnx
      go_wp2
      go_loopw [5, 7, 8] (fun p z j wr' => ∃ i : Nat, i ≤ 8 ∧ p = .int .u32 (bitsN q y i : Nat) ∧ z = .int .u32 ((y / 2 ^ i : Nat) : Int) ∧ j = .int .i64 i ∧ wr' = wr)
        (fun _ _ j _ => 8 - (intOf j).toNat)
      case atStart => exact ⟨0, Nat.zero_le _, rfl, by simp, rfl, rfl⟩
      case round =>
        obtain ⟨i, hi, rfl, rfl, rfl, rfl⟩ := hrel
        have hp := bitsN_lt y hq i
        by_cases hli : i < 8
        · have hst := fun w => r2step_any (bitsN q y i) (y / 2 ^ i % 2) w hp (by omega)
          have hn1 : stepB (bitsN q y i) (y / 2 ^ i % 2) = bitsN q y (i + 1) := rfl
          have hn2 : y / 2 ^ (i + 1) = y / 2 ^ i / 2 := by rw [Nat.pow_succ, Nat.div_div_eq_div_mul]
          simp only [hn1] at hst
          have hzb : y / 2 ^ i < 256 := Nat.lt_of_le_of_lt (Nat.div_le_self _ _) hx
          generalize bitsN q y i = p at *
          generalize y / 2 ^ i = z at *
          have hz : ((z % 2 : Nat) : Int) = (z : Int) % 2 := by omega
          simp only [hz] at hst
          have hli' : (i : Int) < 8 := by omega
          go_wp2_with (go_at_call 31; (with_reducible refine (hst _).mono ?_); rintro e w' ⟨rfl, rfl⟩)
          go_roundw
          case rel => exact ⟨i + 1, by omega, rfl, by rw [hn2]; congr 1, by go_num, trivial⟩
          case measure => first | (simp [intOf]; done) | (simp [intOf]; omega)
        · obtain rfl : i = 8 := by omega
          rw [← HNX.out]
          go_wp2
          go_roundw
          case rel => exact ⟨k + 1, by omega, rfl, by go_num, trivial⟩
          case measure => first | (simp [intOf]; done) | (simp [intOf]; omega)
    · obtain rfl : n = k := by omega
      rw [← HN.out, List.take_length] at hq ⊢
      have e2 := sub_wrap _ hq
      have e3 : (4294967295 : Int) - (sumN q0 xs : Nat) = ((4294967295 ^^^ sumN q0 xs : Nat) : Int) := by rw [← sub_ones _ hq]; omega
      go_wp2
      go_ret
      refine ⟨?_, rfl⟩
      unfold moreN
      rw [HQ.out]
      rfl

set_option maxHeartbeats 400000 in
theorem r2of_any (u : Value) (xs : List UInt8) (w : World) (hS : Sl w u (xs.map B)) (hl : xs.length ≤ 140737488355328) : Calls Try.prog 25 #[u] w fun e w' => e = .returned (.int .u32 (moreN 0 xs : Nat)) ∧ w = w' := by
  obtain ⟨m, hm⟩ : ∃ m, moreN 0 xs = m := ⟨_, rfl⟩
  have h := r2more_any 0 u xs w (by decide) hS hl
  rw [hm] at h ⊢
  clear hm
  obtain ⟨ao, c, rfl, _⟩ := hS.form
  rw [Int.natCast_zero, List.length_map] at h
  rw [List.length_map]
  clear hS
  go_enter Try.func25, Try.ntmps25
  go_wp2_with fail
  refine h.mono ?_
  rintro e w1 ⟨rfl, rfl⟩
  go_wp2
  go_ret
  exact ⟨rfl, rfl⟩

theorem be4 (m : Nat) : be 4 m = [UInt8.ofNat (m / 16777216), UInt8.ofNat (m / 65536 % 256), UInt8.ofNat (m / 256 % 256), UInt8.ofNat (m % 256)] := by
  have h1 : ∀ q, UInt8.ofNat (q % 256) = UInt8.ofNat q := fun q => by
    apply UInt8.toNat_inj.1
    simp
  rw [h1, h1, h1]
  show [UInt8.ofNat (m / 2 ^ 24), UInt8.ofNat (m / 2 ^ 16), UInt8.ofNat (m / 2 ^ 8), UInt8.ofNat (m / 2 ^ 0)] = _
  simp
theorem B_nat (q : Nat) (h : q < 256) : B (UInt8.ofNat q) = .int .u8 (q : Int) := by
  rw [B_ofNat, IntKind.wrap_u8]
  congr 1
  omega

set_option maxHeartbeats 400000 in
theorem four_any (m : Nat) (w : World) (hm : m < 4294967296) : Calls Try.prog 24 #[.int .u32 m] w (GaveB w (be 4 m)) := by
  have w1 : IntKind.u8.wrap ((m : Int) / 16777216) = (m : Int) / 16777216 := by rw [IntKind.wrap_u8]; omega
  have w2 : IntKind.u8.wrap ((m : Int) / 65536 % 256) = (m : Int) / 65536 % 256 := by rw [IntKind.wrap_u8]; omega
  have w3 : IntKind.u8.wrap ((m : Int) / 256 % 256) = (m : Int) / 256 % 256 := by rw [IntKind.wrap_u8]; omega
  have w4 : IntKind.u8.wrap ((m : Int) % 256) = (m : Int) % 256 := by rw [IntKind.wrap_u8]; omega
  have hO : (w.alloc (.cells #[.int .u8 ((m : Int) / 16777216), .int .u8 ((m : Int) / 65536 % 256), .int .u8 ((m : Int) / 256 % 256), .int .u8 ((m : Int) % 256)] 5)).ownsRow w.heap.size 5 1 (.slice (some ⟨w.heap.size, 0, none⟩) 4 4) 4 ((be 4 m).map B) := by
    have h := World.ownsRow_lit (e := 5) (size := 1) w #[.int .u8 ((m : Int) / 16777216), .int .u8 ((m : Int) / 65536 % 256), .int .u8 ((m : Int) / 256 % 256), .int .u8 ((m : Int) % 256)] 4 (Nat.le_refl _) (by decide) rfl
    rw [be4 m, List.map_cons, List.map_cons, List.map_cons, List.map_cons, List.map_nil, B_nat _ (by omega), B_nat _ (by omega), B_nat _ (by omega), B_nat _ (by omega)]
    have e1 : ((m / 16777216 : Nat) : Int) = (m : Int) / 16777216 := by omega
    have e2 : ((m / 65536 % 256 : Nat) : Int) = (m : Int) / 65536 % 256 := by omega
    have e3 : ((m / 256 % 256 : Nat) : Int) = (m : Int) / 256 % 256 := by omega
    have e4 : ((m % 256 : Nat) : Int) = (m : Int) % 256 := by omega
    rw [e1, e2, e3, e4]
    exact h
  have hC := (Chg.refl (fun _ => False) w).alloc (.cells #[.int .u8 ((m : Int) / 16777216), .int .u8 ((m : Int) / 65536 % 256), .int .u8 ((m : Int) / 256 % 256), .int .u8 ((m : Int) % 256)] 5)
  have hl : (be 4 m).length = 4 := be_length 4 m
  go_enter Try.func24, Try.ntmps24
  go_wp2
  go_ret
  refine ⟨_, rfl, ?_, hC⟩
  rw [hl]
  exact hO

set_option maxRecDepth 100000 in
set_option maxHeartbeats 400000 in
theorem r2seal_any (u : Value) (xs : List UInt8) (w : World) (hS : Sl w u (xs.map B)) (hl : xs.length + 100 ≤ 140737488355328) : Calls Try.prog 15 #[u] w (GaveB w (sealL xs)) := by
  obtain ⟨i0, hi, hz0, hz1, hz2⟩ := info_parts Try.info5
  obtain ⟨ao, c, rfl, _⟩ := hS.form
  rw [List.length_map] at hS
  rw [List.length_map]
  have HS := Lib.hid hS
  clear hS
  obtain ⟨n, hn⟩ : ∃ n, xs.length = n := ⟨_, rfl⟩
  rw [hn] at hl HS
  rw [hn]
  have HN := Lib.hid hn
  clear hn
  have hm2 : moreN 0 xs < 4294967296 := moreN_lt _ (by decide)
  have hof := fun w' (h : Chg (fun _ => False) w w') => r2of_any _ xs w' (HS.out.fr h) (by rw [HN.out]; omega)
  have hse : sealL xs = xs ++ be 4 (moreN 0 xs) := rfl
  generalize moreN 0 xs = m at *
  have hfo := fun w' => four_any m w' hm2
  go_enter Try.func15, Try.ntmps15
  go_wp2_with (first
    | (refine wpList_append_own_any rfl (.tmp 4) (.tmp 5) 22 rfl w.heap.size 5 i0 (.int .u8 0) 1 1 Try.underlying22 hi hz0 hz1 hz2 rfl (by decide) (.slice none 0 0) 0 [] rfl (World.ownsRow_nil _ _ _ _) ao n c (xs.map B) rfl (by rw [List.length_map, HN.out]; omega) HS.out.src (by simp [B, Value.oneCell']) (by unfold maxLen; omega) (by omega) (Nat.le_refl _) ?_; intro v2 w2 hown2 hg2 _ hO2; have hC2 := (Chg.refl (fun _ => False) w).grown hg2 (fun k e => by cases e)))
  refine (hof w2 hC2).mono ?_
  rintro e w' ⟨rfl, rfl⟩
  go_wp2_with fail
  refine (hfo w2).mono ?_
  clear hof hfo
  rintro e w3 ⟨v3, rfl, ho3, hC3⟩
  have hC3' := hC2.tr hC3
  have hown3 := hC3.owns hown2 (fun _ _ => id)
  obtain ⟨ao3, L3, c3, rfl, hL⟩ := owns_name ho3
  have hl4 : (be 4 m).length = 4 := be_length 4 m
  have hL3 : L3 = 4 := by rw [hL.out]; exact hl4
  subst hL3
  have hsr := (Sl.of_owns ho3).src
  have HE := Lib.hid hse
  have H4 := Lib.hid hl4
  clear hL hse hl4 hown2 hg2 hO2 ho3
  go_wp2_with (refine wpList_append_own_any rfl (.tmp 7) (.tmp 10) 22 rfl w.heap.size 5 i0 (.int .u8 0) 1 1 Try.underlying22 hi hz0 hz1 hz2 rfl (by decide) v2 _ _ rfl hown3 ao3 4 c3 ((be 4 m).map B) rfl (by rw [List.length_map, H4.out]) hsr (by simp [B, Value.oneCell']) (by unfold maxLen; omega) (by omega) hC3'.size ?_; intro v4 w4 hown4 hg4 _ hO4; have hC4 := hC3'.grown hg4 (fun k e => .inr (hown3.lt k e).1))
  go_ret
  refine ⟨_, rfl, ?_, hC4⟩
  rw [HE.out, List.length_append, H4.out, HN.out, List.map_append]
  rw [Nat.zero_add, List.nil_append] at hown4
  exact hown4

set_option maxRecDepth 100000 in
set_option maxHeartbeats 400000 in
theorem r2open_short (ao : Option Addr) (c n : Nat) (w : World) (h4 : n < 4) :
    Calls Try.prog 14 #[.slice ao n c] w (GaveO w [] 20) := by
  have hd : decide ((n : Int) - 4 < 0) = true := decide_eq_true (by omega)
  have e4 : IntKind.i64.wrap ((n : Int) - 4) = (n : Int) - 4 := IntWalk.i64_in _ (by omega)
  go_enter Try.func14, Try.ntmps14
  go_wp2
  go_region
  all_goals
    go_wp2
    go_ret2
    exact ⟨_, rfl, World.ownsRow_nil _ _ _ _, by first | exact Chg.refl _ _ | exact (Chg.refl _ w).drew⟩

theorem oneCell_B' (l : List UInt8) : ∀ u ∈ l.map B, u.oneCell' = true := fun u hu => by
  obtain ⟨x, _, rfl⟩ := List.mem_map.1 hu
  rfl

theorem seal_eq (xs : List UInt8) (k : Nat) : sealL (xs.take k) = xs ↔ be 4 (moreN 0 (xs.take k)) = xs.drop k := by
  unfold sealL
  constructor
  · intro h
    have h1 := congrArg (List.drop k) h
    by_cases hk : k ≤ xs.length
    · rw [List.drop_append_of_le_length (by rw [List.length_take]; omega), List.drop_take_self, List.nil_append] at h1
      exact h1
    · have h2 := congrArg List.length h
      rw [List.length_append, List.length_take, be_length] at h2
      omega
  · intro h
    rw [h, List.take_append_drop]

set_option maxRecDepth 100000 in
set_option maxHeartbeats 1000000 in
theorem r2open_main (ao : Option Addr) (c n k : Nat) (xs : List UInt8) (w : World) (m1 : xs.length = n) (hk : n = k + 4) (hS : Sl w (.slice ao n c) (xs.map B)) (hl : n + 100 ≤ 140737488355328) :
    Calls Try.prog 14 #[.slice ao n c] w (GaveO w (if sealL (xs.take k) = xs then xs.take k else []) (if sealL (xs.take k) = xs then 0 else 20)) := by
  obtain ⟨i0, hi, hz0, hz1, hz2⟩ := info_parts Try.info5
  have hd : decide ((k : Int) < 0) = false := decide_eq_false (by omega)
  have hSd := hS.fr ((Chg.refl _ w).drew)
  obtain ⟨a1, d1, hS1, _, _, _, hcut⟩ := hSd.slice 22 5 Try.underlying22 sizeOf_u8 0 k (Nat.zero_le _) (by rw [List.length_map]; omega)
  replace hcut := hcut rfl
  rw [Nat.sub_zero] at hS1 hcut
  rw [List.drop_zero, ← List.map_take] at hS1
  obtain ⟨a2, d2, hS2, _, _, hcut2, _⟩ := hSd.slice 22 5 Try.underlying22 sizeOf_u8 k n (by omega) (by rw [List.length_map]; omega)
  replace hcut2 := hcut2 (by rw [List.length_map]; omega)
  rw [List.take_of_length_le (by rw [List.length_map]; omega), ← List.map_drop, show n - k = 4 by omega] at hS2
  rw [show n - k = 4 by omega] at hcut2
  have e4 : IntKind.i64.wrap ((n : Int) - 4) = (k : Int) := by rw [show (n : Int) - 4 = (k : Int) by omega]; exact IntWalk.i64_in _ (by omega)
  have hq : (k : Int) ≤ (n : Int) := by omega
  have hlt : (xs.take k).length = k := by rw [List.length_take]; omega
  have hm2 : moreN 0 (xs.take k) < 4294967296 := moreN_lt _ (by decide)
  have hof := fun w' (h : Chg (fun _ => False) w.drew w') => r2of_any _ (xs.take k) w' (hS1.fr h) (by omega)
  have hse := seal_eq xs k
  generalize moreN 0 (xs.take k) = m at *
  have hfo := fun w' => four_any m w' hm2
  have HS := Lib.hid hS
  have HS1 := Lib.hid hS1
  obtain ⟨S2, hs2, hs3, _⟩ := str_name (xs.drop k)
  have hx2 : ∀ w', Chg (fun _ => False) w.drew w' → (convert 22 9 (.slice a2 4 d2)).run Try.prog w' = .ok (.string S2) w' := fun w' h => by
    have := run_convert_sl (P := Try.prog) 22 9 5 Try.underlying22 Try.underlying5 Try.underlying9 (hS2.fr h)
    rw [hs2] at this
    exact this
  have hx0 := hx2 _ (Chg.refl _ _)
  have HX2 := Lib.hid hx2
  have H3 := Lib.hid hs3
  have HLT := Lib.hid hlt
  clear hS hS1 hS2 hSd hk m1 hx2 hs3 hlt
  by_cases hb : be 4 m = xs.drop k
  · rw [if_pos (hse.2 hb), if_pos (hse.2 hb)]
    rw [← hb] at hs2
    have HX1 := Lib.hid hs2
    clear hs2 hse hb
    go_enter Try.func14, Try.ntmps14
    go_wp2
    refine wp_region_held_drew (S := fun w' => Chg (fun _ => False) w.drew w' ∧ (convert 22 9 (.slice a2 4 d2)).run Try.prog w' = .ok (.string S2) w') (by kernel_rfl) ⟨Chg.refl _ _, hx0⟩ (fun hHeld => ?_)
    refine' wpAnyH_take (i := 0) (oi := _) (v := .int .i64 k) ?hia0 (by kernel_rfl) (by kernel_rfl) (by kernel_rfl) ?hqa0 (Or.inl ⟨?hwa0, fun w hSw => ?hya0⟩) hHeld ?hka0
    case hia0 => (simp only [List.getElem?_toArray, List.getElem?_cons_zero]; rfl)
    case hqa0 => exact fun _ _ _ h => h
    case hwa0 => rfl
    case hya0 => first | (go_simp; done) | (go_simp; with_reducible rfl)
    simp only [Act.put, List.setIfInBounds_toArray, List.set_cons_zero, List.set_cons_succ]
    refine' wpAnyH_take (i := 1) (oi := _) (v := .bool false) ?hia1 (by kernel_rfl) (by kernel_rfl) (by kernel_rfl) ?hqa1 (Or.inl ⟨?hwa1, fun w hSw => ?hya1⟩) hHeld ?hka1
    case hia1 => (simp only [List.getElem?_toArray, List.getElem?_cons_succ, List.getElem?_cons_zero]; rfl)
    case hqa1 => exact fun _ _ _ h => h
    case hwa1 => rfl
    case hya1 => first | (go_simp; done) | (go_simp; with_reducible rfl)
    simp only [Act.put, List.setIfInBounds_toArray, List.set_cons_zero, List.set_cons_succ]
    refine' wpAnyH_take (i := 2) (oi := _) (v := .bool false) ?hia2 (by kernel_rfl) (by kernel_rfl) (by kernel_rfl) ?hqa2 (Or.inl ⟨?hwa2, fun w hSw => ?hya2⟩) hHeld ?hka2
    case hia2 => (simp only [List.getElem?_toArray, List.getElem?_cons_succ, List.getElem?_cons_zero]; rfl)
    case hqa2 => exact fun _ _ _ h => h
    case hwa2 => rfl
    case hya2 => first | (go_simp; done) | (go_simp; with_reducible rfl)
    simp only [Act.put, List.setIfInBounds_toArray, List.set_cons_zero, List.set_cons_succ]
    refine' wpAnyH_take (i := 3) (oi := _) (v := .slice ao n c) ?hia3 (by kernel_rfl) (by kernel_rfl) (by kernel_rfl) ?hqa3 (Or.inl ⟨?hwa3, fun w hSw => ?hya3⟩) hHeld ?hka3
    case hia3 => (simp only [List.getElem?_toArray, List.getElem?_cons_succ, List.getElem?_cons_zero]; rfl)
    case hqa3 => exact fun _ _ _ h => h
    case hwa3 => rfl
    case hya3 => first | (go_simp; done) | (go_simp; with_reducible rfl)
    simp only [Act.put, List.setIfInBounds_toArray, List.set_cons_zero, List.set_cons_succ]
    refine' wpAnyH_take (i := 4) (oi := _) (v := .int .i64 k) ?hia4 (by kernel_rfl) (by kernel_rfl) (by kernel_rfl) ?hqa4 (Or.inl ⟨?hwa4, fun w hSw => ?hya4⟩) hHeld ?hka4
    case hia4 => (simp only [List.getElem?_toArray, List.getElem?_cons_succ, List.getElem?_cons_zero]; rfl)
    case hqa4 => exact fun _ _ _ h => h
    case hwa4 => rfl
    case hya4 => first | (go_simp; done) | (go_simp; with_reducible rfl)
    simp only [Act.put, List.setIfInBounds_toArray, List.set_cons_zero, List.set_cons_succ]
    refine' wpAnyH_take (i := 5) (oi := _) (v := .slice a1 k d1) ?hia5 (by kernel_rfl) (by kernel_rfl) (by kernel_rfl) ?hqa5 (Or.inl ⟨?hwa5, fun w hSw => ?hya5⟩) hHeld ?hka5
    case hia5 => (simp only [List.getElem?_toArray, List.getElem?_cons_succ, List.getElem?_cons_zero]; rfl)
    case hqa5 => exact fun _ _ _ h => h
    case hwa5 => rfl
    case hya5 => first | (go_simp; done) | (go_simp; with_reducible rfl)
    simp only [Act.put, List.setIfInBounds_toArray, List.set_cons_zero, List.set_cons_succ]
    refine' wpAnyH_take (i := 9) (oi := _) (v := .slice ao n c) ?hia9 (by kernel_rfl) (by kernel_rfl) (by kernel_rfl) ?hqa9 (Or.inl ⟨?hwa9, fun w hSw => ?hya9⟩) hHeld ?hka9
    case hia9 => (simp only [List.getElem?_toArray, List.getElem?_cons_succ, List.getElem?_cons_zero]; rfl)
    case hqa9 => exact fun _ _ _ h => h
    case hwa9 => rfl
    case hya9 => first | (go_simp; done) | (go_simp; with_reducible rfl)
    simp only [Act.put, List.setIfInBounds_toArray, List.set_cons_zero, List.set_cons_succ]
    refine' wpAnyH_take (i := 10) (oi := _) (v := .int .i64 k) ?hia10 (by kernel_rfl) (by kernel_rfl) (by kernel_rfl) ?hqa10 (Or.inl ⟨?hwa10, fun w hSw => ?hya10⟩) hHeld ?hka10
    case hia10 => (simp only [List.getElem?_toArray, List.getElem?_cons_succ, List.getElem?_cons_zero]; rfl)
    case hqa10 => exact fun _ _ _ h => h
    case hwa10 => rfl
    case hya10 => first | (go_simp; done) | (go_simp; with_reducible rfl)
    simp only [Act.put, List.setIfInBounds_toArray, List.set_cons_zero, List.set_cons_succ]
    refine' wpAnyH_take (i := 11) (oi := _) (v := .slice a2 4 d2) ?hia11 (by kernel_rfl) (by kernel_rfl) (by kernel_rfl) ?hqa11 (Or.inl ⟨?hwa11, fun w hSw => ?hya11⟩) hHeld ?hka11
    case hia11 => (simp only [List.getElem?_toArray, List.getElem?_cons_succ, List.getElem?_cons_zero]; rfl)
    case hqa11 => exact fun _ _ _ h => h
    case hwa11 => rfl
    case hya11 => first | (go_simp; done) | (go_simp; with_reducible rfl)
    simp only [Act.put, List.setIfInBounds_toArray, List.set_cons_zero, List.set_cons_succ]
    refine' wpAnyH_take (i := 12) (oi := _) (v := .string S2) ?hia12 (by kernel_rfl) (by kernel_rfl) (by kernel_rfl) ?hqa12 (Or.inl ⟨?hwa12, fun w hSw => ?hya12⟩) hHeld ?hka12
    case hia12 => (simp only [List.getElem?_toArray, List.getElem?_cons_succ, List.getElem?_cons_zero]; rfl)
    case hqa12 => exact fun _ _ _ h => h
    case hwa12 => rfl
    case hya12 => first | (go_simp; done) | (go_simp; with_reducible rfl)
    simp only [Act.put, List.setIfInBounds_toArray, List.set_cons_zero, List.set_cons_succ]
    refine wpAnyH_ready (rs := [6]) (by kernel_rfl) (by simp) ?_
    refine AllReadyH.cons rfl (fun K hK => ?_) AllReadyH.nil
    go_simp
    go_at_call 25
    refine (hof _ (Chg.refl _ _)).mono ?_
    rintro e w' ⟨rfl, rfl⟩
    refine hK.out _ _ hHeld (fun hHeld => ?_)
    clear hK K
    refine wpAnyH_ready (rs := [7]) (by kernel_rfl) (by simp) ?_
    refine AllReadyH.cons rfl (fun K hK => ?_) AllReadyH.nil
    go_simp
    go_at_call 24
    refine (hfo _).mono ?_
    rintro e w3 ⟨v3, rfl, ho3, hC3⟩
    have hx1 := run_convert_sl (P := Try.prog) 22 9 5 Try.underlying22 Try.underlying5 Try.underlying9 (Sl.of_owns ho3)
    rw [HX1.out] at hx1
    have hx3 := HX2.out _ hC3
    refine hK.out _ _ ⟨hC3, hx3⟩ (fun hHeld => ?_)
    clear hK K
    refine wpAnyH_change (S' := fun w' => w' = w3) (fun w' h => h ▸ ⟨hC3, hx3⟩) _ _ _ _ ?_
    refine' wpAnyH_take (i := 8) (oi := _) (v := .string S2) ?hia8 (by kernel_rfl) (by kernel_rfl) (by kernel_rfl) ?hqa8 (Or.inl ⟨?hwa8, fun w hSw => ?hya8⟩) rfl ?hka8
    case hia8 => (simp only [List.getElem?_toArray, List.getElem?_cons_succ, List.getElem?_cons_zero]; rfl)
    case hqa8 => exact fun _ _ _ h => h
    case hwa8 => rfl
    case hya8 => (subst hSw; first | (go_simp; done) | (go_simp; with_reducible rfl))
    simp only [Act.put, List.setIfInBounds_toArray, List.set_cons_zero, List.set_cons_succ]
    refine' wpAnyH_take (i := 13) (oi := _) (v := .bool false) ?hia13 (by kernel_rfl) (by kernel_rfl) (by kernel_rfl) ?hqa13 (Or.inl ⟨?hwa13, fun w hSw => ?hya13⟩) rfl ?hka13
    case hia13 => (simp only [List.getElem?_toArray, List.getElem?_cons_succ, List.getElem?_cons_zero]; rfl)
    case hqa13 => exact fun _ _ _ h => h
    case hwa13 => rfl
    case hya13 => (subst hSw; first | (go_simp; done) | (go_simp; with_reducible rfl))
    simp only [Act.put, List.setIfInBounds_toArray, List.set_cons_zero, List.set_cons_succ]
    refine' wpAnyH_take (i := 14) (oi := _) (v := .bool false) ?hia14 (by kernel_rfl) (by kernel_rfl) (by kernel_rfl) ?hqa14 (Or.inl ⟨?hwa14, fun w hSw => ?hya14⟩) rfl ?hka14
    case hia14 => (simp only [List.getElem?_toArray, List.getElem?_cons_succ, List.getElem?_cons_zero]; rfl)
    case hqa14 => exact fun _ _ _ h => h
    case hwa14 => rfl
    case hya14 => (subst hSw; first | (go_simp; done) | (go_simp; with_reducible rfl))
    simp only [Act.put, List.setIfInBounds_toArray, List.set_cons_zero, List.set_cons_succ]
    refine wpAnyH_done (by kernel_rfl) ?_ _
    have hS1b := ((HS1.out.fr hC3))
    have hsr := hS1b.src
    go_wp2_with (refine wpList_append_own_any rfl (.tmp 24) (.tmp 27) 22 rfl w.heap.size 5 i0 (.int .u8 0) 1 1 Try.underlying22 hi hz0 hz1 hz2 rfl (by decide) (.slice none 0 0) 0 [] rfl (World.ownsRow_nil _ _ _ _) a1 k d1 ((xs.take k).map B) rfl (by rw [List.length_map, HLT.out]; omega) hsr (oneCell_B' _) (by unfold maxLen; omega) (by omega) hC3.size ?_; intro v4 w4 hown4 hg4 _ hO4; have hC4 := (((Chg.refl _ w).drew).tr hC3).grown hg4 (fun k e => by cases e))
    go_ret2
    rw [Nat.zero_add, List.nil_append] at hown4
    exact ⟨_, rfl, by rw [HLT.out]; exact hown4, hC4⟩
  · rw [if_neg (fun h => hb (hse.1 h)), if_neg (fun h => hb (hse.1 h))]
    obtain ⟨S1, hs1, hs4, _⟩ := str_name (be 4 m)
    have hne : ¬ S1.toList = S2.toList := fun h => hb (by rw [← hs4, ← H3.out, h])
    have HX1 := Lib.hid hs1
    clear hs2 hse hb hs1 hs4
    go_enter Try.func14, Try.ntmps14
    go_wp2
    refine wp_region_held_drew (S := fun w' => Chg (fun _ => False) w.drew w' ∧ (convert 22 9 (.slice a2 4 d2)).run Try.prog w' = .ok (.string S2) w') (by kernel_rfl) ⟨Chg.refl _ _, hx0⟩ (fun hHeld => ?_)
    refine' wpAnyH_take (i := 0) (oi := _) (v := .int .i64 k) ?hib0 (by kernel_rfl) (by kernel_rfl) (by kernel_rfl) ?hqb0 (Or.inl ⟨?hwb0, fun w hSw => ?hyb0⟩) hHeld ?hkb0
    case hib0 => (simp only [List.getElem?_toArray, List.getElem?_cons_zero]; rfl)
    case hqb0 => exact fun _ _ _ h => h
    case hwb0 => rfl
    case hyb0 => first | (go_simp; done) | (go_simp; with_reducible rfl)
    simp only [Act.put, List.setIfInBounds_toArray, List.set_cons_zero, List.set_cons_succ]
    refine' wpAnyH_take (i := 1) (oi := _) (v := .bool false) ?hib1 (by kernel_rfl) (by kernel_rfl) (by kernel_rfl) ?hqb1 (Or.inl ⟨?hwb1, fun w hSw => ?hyb1⟩) hHeld ?hkb1
    case hib1 => (simp only [List.getElem?_toArray, List.getElem?_cons_succ, List.getElem?_cons_zero]; rfl)
    case hqb1 => exact fun _ _ _ h => h
    case hwb1 => rfl
    case hyb1 => first | (go_simp; done) | (go_simp; with_reducible rfl)
    simp only [Act.put, List.setIfInBounds_toArray, List.set_cons_zero, List.set_cons_succ]
    refine' wpAnyH_take (i := 2) (oi := _) (v := .bool false) ?hib2 (by kernel_rfl) (by kernel_rfl) (by kernel_rfl) ?hqb2 (Or.inl ⟨?hwb2, fun w hSw => ?hyb2⟩) hHeld ?hkb2
    case hib2 => (simp only [List.getElem?_toArray, List.getElem?_cons_succ, List.getElem?_cons_zero]; rfl)
    case hqb2 => exact fun _ _ _ h => h
    case hwb2 => rfl
    case hyb2 => first | (go_simp; done) | (go_simp; with_reducible rfl)
    simp only [Act.put, List.setIfInBounds_toArray, List.set_cons_zero, List.set_cons_succ]
    refine' wpAnyH_take (i := 3) (oi := _) (v := .slice ao n c) ?hib3 (by kernel_rfl) (by kernel_rfl) (by kernel_rfl) ?hqb3 (Or.inl ⟨?hwb3, fun w hSw => ?hyb3⟩) hHeld ?hkb3
    case hib3 => (simp only [List.getElem?_toArray, List.getElem?_cons_succ, List.getElem?_cons_zero]; rfl)
    case hqb3 => exact fun _ _ _ h => h
    case hwb3 => rfl
    case hyb3 => first | (go_simp; done) | (go_simp; with_reducible rfl)
    simp only [Act.put, List.setIfInBounds_toArray, List.set_cons_zero, List.set_cons_succ]
    refine' wpAnyH_take (i := 4) (oi := _) (v := .int .i64 k) ?hib4 (by kernel_rfl) (by kernel_rfl) (by kernel_rfl) ?hqb4 (Or.inl ⟨?hwb4, fun w hSw => ?hyb4⟩) hHeld ?hkb4
    case hib4 => (simp only [List.getElem?_toArray, List.getElem?_cons_succ, List.getElem?_cons_zero]; rfl)
    case hqb4 => exact fun _ _ _ h => h
    case hwb4 => rfl
    case hyb4 => first | (go_simp; done) | (go_simp; with_reducible rfl)
    simp only [Act.put, List.setIfInBounds_toArray, List.set_cons_zero, List.set_cons_succ]
    refine' wpAnyH_take (i := 5) (oi := _) (v := .slice a1 k d1) ?hib5 (by kernel_rfl) (by kernel_rfl) (by kernel_rfl) ?hqb5 (Or.inl ⟨?hwb5, fun w hSw => ?hyb5⟩) hHeld ?hkb5
    case hib5 => (simp only [List.getElem?_toArray, List.getElem?_cons_succ, List.getElem?_cons_zero]; rfl)
    case hqb5 => exact fun _ _ _ h => h
    case hwb5 => rfl
    case hyb5 => first | (go_simp; done) | (go_simp; with_reducible rfl)
    simp only [Act.put, List.setIfInBounds_toArray, List.set_cons_zero, List.set_cons_succ]
    refine' wpAnyH_take (i := 9) (oi := _) (v := .slice ao n c) ?hib9 (by kernel_rfl) (by kernel_rfl) (by kernel_rfl) ?hqb9 (Or.inl ⟨?hwb9, fun w hSw => ?hyb9⟩) hHeld ?hkb9
    case hib9 => (simp only [List.getElem?_toArray, List.getElem?_cons_succ, List.getElem?_cons_zero]; rfl)
    case hqb9 => exact fun _ _ _ h => h
    case hwb9 => rfl
    case hyb9 => first | (go_simp; done) | (go_simp; with_reducible rfl)
    simp only [Act.put, List.setIfInBounds_toArray, List.set_cons_zero, List.set_cons_succ]
    refine' wpAnyH_take (i := 10) (oi := _) (v := .int .i64 k) ?hib10 (by kernel_rfl) (by kernel_rfl) (by kernel_rfl) ?hqb10 (Or.inl ⟨?hwb10, fun w hSw => ?hyb10⟩) hHeld ?hkb10
    case hib10 => (simp only [List.getElem?_toArray, List.getElem?_cons_succ, List.getElem?_cons_zero]; rfl)
    case hqb10 => exact fun _ _ _ h => h
    case hwb10 => rfl
    case hyb10 => first | (go_simp; done) | (go_simp; with_reducible rfl)
    simp only [Act.put, List.setIfInBounds_toArray, List.set_cons_zero, List.set_cons_succ]
    refine' wpAnyH_take (i := 11) (oi := _) (v := .slice a2 4 d2) ?hib11 (by kernel_rfl) (by kernel_rfl) (by kernel_rfl) ?hqb11 (Or.inl ⟨?hwb11, fun w hSw => ?hyb11⟩) hHeld ?hkb11
    case hib11 => (simp only [List.getElem?_toArray, List.getElem?_cons_succ, List.getElem?_cons_zero]; rfl)
    case hqb11 => exact fun _ _ _ h => h
    case hwb11 => rfl
    case hyb11 => first | (go_simp; done) | (go_simp; with_reducible rfl)
    simp only [Act.put, List.setIfInBounds_toArray, List.set_cons_zero, List.set_cons_succ]
    refine' wpAnyH_take (i := 12) (oi := _) (v := .string S2) ?hib12 (by kernel_rfl) (by kernel_rfl) (by kernel_rfl) ?hqb12 (Or.inl ⟨?hwb12, fun w hSw => ?hyb12⟩) hHeld ?hkb12
    case hib12 => (simp only [List.getElem?_toArray, List.getElem?_cons_succ, List.getElem?_cons_zero]; rfl)
    case hqb12 => exact fun _ _ _ h => h
    case hwb12 => rfl
    case hyb12 => first | (go_simp; done) | (go_simp; with_reducible rfl)
    simp only [Act.put, List.setIfInBounds_toArray, List.set_cons_zero, List.set_cons_succ]
    refine wpAnyH_ready (rs := [6]) (by kernel_rfl) (by simp) ?_
    refine AllReadyH.cons rfl (fun K hK => ?_) AllReadyH.nil
    go_simp
    go_at_call 25
    refine (hof _ (Chg.refl _ _)).mono ?_
    rintro e w' ⟨rfl, rfl⟩
    refine hK.out _ _ hHeld (fun hHeld => ?_)
    clear hK K
    refine wpAnyH_ready (rs := [7]) (by kernel_rfl) (by simp) ?_
    refine AllReadyH.cons rfl (fun K hK => ?_) AllReadyH.nil
    go_simp
    go_at_call 24
    refine (hfo _).mono ?_
    rintro e w3 ⟨v3, rfl, ho3, hC3⟩
    have hx1 := run_convert_sl (P := Try.prog) 22 9 5 Try.underlying22 Try.underlying5 Try.underlying9 (Sl.of_owns ho3)
    rw [HX1.out] at hx1
    have hx3 := HX2.out _ hC3
    refine hK.out _ _ ⟨hC3, hx3⟩ (fun hHeld => ?_)
    clear hK K
    refine wpAnyH_change (S' := fun w' => w' = w3) (fun w' h => h ▸ ⟨hC3, hx3⟩) _ _ _ _ ?_
    refine' wpAnyH_take (i := 8) (oi := _) (v := .string S1) ?hib8 (by kernel_rfl) (by kernel_rfl) (by kernel_rfl) ?hqb8 (Or.inl ⟨?hwb8, fun w hSw => ?hyb8⟩) rfl ?hkb8
    case hib8 => (simp only [List.getElem?_toArray, List.getElem?_cons_succ, List.getElem?_cons_zero]; rfl)
    case hqb8 => exact fun _ _ _ h => h
    case hwb8 => rfl
    case hyb8 => (subst hSw; first | (go_simp; done) | (go_simp; with_reducible rfl))
    simp only [Act.put, List.setIfInBounds_toArray, List.set_cons_zero, List.set_cons_succ]
    refine' wpAnyH_take (i := 13) (oi := _) (v := .bool true) ?hib13 (by kernel_rfl) (by kernel_rfl) (by kernel_rfl) ?hqb13 (Or.inl ⟨?hwb13, fun w hSw => ?hyb13⟩) rfl ?hkb13
    case hib13 => (simp only [List.getElem?_toArray, List.getElem?_cons_succ, List.getElem?_cons_zero]; rfl)
    case hqb13 => exact fun _ _ _ h => h
    case hwb13 => rfl
    case hyb13 => (subst hSw; first | (go_simp; done) | (go_simp; with_reducible rfl))
    simp only [Act.put, List.setIfInBounds_toArray, List.set_cons_zero, List.set_cons_succ]
    refine' wpAnyH_take (i := 14) (oi := _) (v := .bool true) ?hib14 (by kernel_rfl) (by kernel_rfl) (by kernel_rfl) ?hqb14 (Or.inl ⟨?hwb14, fun w hSw => ?hyb14⟩) rfl ?hkb14
    case hib14 => (simp only [List.getElem?_toArray, List.getElem?_cons_succ, List.getElem?_cons_zero]; rfl)
    case hqb14 => exact fun _ _ _ h => h
    case hwb14 => rfl
    case hyb14 => (subst hSw; first | (go_simp; done) | (go_simp; with_reducible rfl))
    simp only [Act.put, List.setIfInBounds_toArray, List.set_cons_zero, List.set_cons_succ]
    refine wpAnyH_done (by kernel_rfl) ?_ _
    go_wp2
    go_ret2
    exact ⟨_, rfl, World.ownsRow_nil _ _ _ _, ((Chg.refl _ w).drew).tr hC3⟩
end Go.Proofs.Ytkckniipingkiaa
