/- TileTurned: the law, and its walk. -/
import Derived.Test.YtccpmbonipfmpaaTlY
import Derived.Test.YtccpmbonipfmpaaTlK
import Derived.Test.YtccpmbonipfmpaaBurstW
namespace Go.Proofs.Ytccpmbonipfmpaa
open Go.RowKit

/-- Sealed bytes with bits turned ahead of the sum are sealed no more. -/
theorem turned_body (xs : List UInt8) (t f : Nat) (ht : t < 4294967296) (h0 : t ≠ 0) (hf : f + 32 ≤ 8 * xs.length) : openOk (xorB (sealL xs) (leB (turnX t f 32) (sealL xs).length)) = false := by
  rw [turnX_all t f ht, sealL_length]
  have hX : t * 2 ^ f / 2 ^ (8 * xs.length) = 0 := by
    apply Nat.div_eq_of_lt
    calc t * 2 ^ f < 4294967296 * 2 ^ f := Nat.mul_lt_mul_of_pos_right ht (Nat.pow_pos (by decide))
      _ = 2 ^ (32 + f) := by rw [Nat.pow_add]
      _ ≤ 2 ^ (8 * xs.length) := Nat.pow_le_pow_right (by decide) (by omega)
  have hm : moreN 0 xs < 4294967296 := moreN_lt _ (by decide)
  obtain ⟨ys, hy⟩ : ∃ ys, xorB (sealL xs) (leB (t * 2 ^ f) (xs.length + 4)) = ys := ⟨_, rfl⟩
  have htk : ys.take xs.length = xorB xs (leB (t * 2 ^ f) xs.length) := by
    rw [← hy]
    show (List.zipWith _ _ _).take _ = _
    unfold sealL
    rw [List.take_zipWith, List.take_left, leB_take]
    rfl
  have hdr : ys.drop xs.length = be 4 (moreN 0 xs) := by
    rw [← hy]
    show (List.zipWith _ _ _).drop _ = _
    unfold sealL
    rw [List.drop_zipWith, List.drop_left, leB_drop, hX]
    have := xorB_zero (be 4 (moreN 0 xs))
    rw [be_length] at this
    exact this
  have hl : ys.length = xs.length + 4 := by rw [← hy, xorB_length _ _ (by rw [leB_length, sealL_length]), sealL_length]
  rw [hy]
  unfold openOk
  rw [hl, show xs.length + 4 - 4 = xs.length by omega, htk]
  have hne : ¬ sealL (xorB xs (leB (t * 2 ^ f) xs.length)) = ys := by
    intro e
    have e2 : (sealL (xorB xs (leB (t * 2 ^ f) xs.length))).drop xs.length = ys.drop xs.length := by rw [e]
    rw [hdr] at e2
    unfold sealL at e2
    rw [List.drop_left' (by rw [xorB_length _ _ (leB_length _ _).symm])] at e2
    have e3 := be_inj 4 _ _ (by decide) (moreN_lt _ (by decide)) hm e2
    apply h0
    rw [← burst_law xs t f ht (by omega), hX, Nat.xor_zero]
    exact e3
  rw [decide_eq_false hne, Bool.and_false]
theorem turned_tile (f n k s : Int) (l : List Int) (hc : checkB f n k l s = true) (t p : Nat) (ht : t < 4294967296) (h0 : t ≠ 0) (hp : (p : Int) + 32 ≤ 8 * (s * 128 - 4)) (L : List UInt8) (hL : tileL f n k l s = L) :
    soundB (xorB L (leB (turnX t p 32) L.length)) = false ∧ decOk (xorB L (leB (turnX t p 32) L.length)) = false := by
  obtain ⟨⟨s1, s2⟩, _, ⟨a1, a2⟩, hk1, hl1⟩ := check_bounds hc
  unfold tileL at hL
  rw [if_pos hc] at hL
  subst hL
  have h := turned_body (bodyL f n.toNat k.toNat l s.toNat) t p ht h0 (by rw [bodyL_length _ _ _ _ _ (by omega)]; omega)
  have hs : soundB (xorB (sealL (bodyL f n.toNat k.toNat l s.toNat)) (leB (turnX t p 32) (sealL (bodyL f n.toNat k.toNat l s.toNat)).length)) = false := by
    unfold soundB
    rw [h, Bool.false_and]
  refine ⟨hs, ?_⟩
  unfold decOk
  rw [hs, Bool.false_and]
set_option maxRecDepth 100000 in
theorem turnd_big1 (f n k s : Int) (a1 : Option Addr) (m1 d1 a t : Nat) (W : World) (h1 : (1500 : Int) < m1) : Calls Try.prog 8 #[.agg #[.int .i64 f, .int .i64 n, .int .i64 k, .slice a1 m1 d1], .int .i64 s, .int .u16 a, .int .u32 t] W (True_ W) := by
  go_enter Try.func8, Try.ntmps8
  go_wp2_with fail
  refine (alive_any _).mono ?_
  rintro e w1 ⟨rfl, hC1⟩
  have t0 : w1.cell? ⟨W.heap.size, 0, none⟩ = some (.int .i64 f) := hC1.cell (new_cell W _ _ rfl) id
  have t1 : w1.cell? ⟨W.heap.size, 1, none⟩ = some (.int .i64 n) := hC1.cell (new_cell W _ _ rfl) id
  have t2 : w1.cell? ⟨W.heap.size, 2, none⟩ = some (.int .i64 k) := hC1.cell (new_cell W _ _ rfl) id
  have t3 : w1.cell? ⟨W.heap.size, 3, none⟩ = some (.slice a1 m1 d1) := hC1.cell (new_cell W _ _ rfl) id
  replace hC1 := ((Chg.refl _ W).alloc _).tr hC1
  go_wp2
  go_ret
  exact ⟨rfl, hC1⟩
set_option maxRecDepth 100000 in
theorem turnd_zero (f n k s : Int) (a1 : Option Addr) (m1 d1 a t : Nat) (W : World) (h1 : ¬ (1500 : Int) < m1) (h2 : ((t : Int) == 0) = true) : Calls Try.prog 8 #[.agg #[.int .i64 f, .int .i64 n, .int .i64 k, .slice a1 m1 d1], .int .i64 s, .int .u16 a, .int .u32 t] W (True_ W) := by
  go_enter Try.func8, Try.ntmps8
  go_wp2_with fail
  refine (alive_any _).mono ?_
  rintro e w1 ⟨rfl, hC1⟩
  have t0 : w1.cell? ⟨W.heap.size, 0, none⟩ = some (.int .i64 f) := hC1.cell (new_cell W _ _ rfl) id
  have t1 : w1.cell? ⟨W.heap.size, 1, none⟩ = some (.int .i64 n) := hC1.cell (new_cell W _ _ rfl) id
  have t2 : w1.cell? ⟨W.heap.size, 2, none⟩ = some (.int .i64 k) := hC1.cell (new_cell W _ _ rfl) id
  have t3 : w1.cell? ⟨W.heap.size, 3, none⟩ = some (.slice a1 m1 d1) := hC1.cell (new_cell W _ _ rfl) id
  replace hC1 := ((Chg.refl _ W).alloc _).tr hC1
  go_wp2
  go_ret
  exact ⟨rfl, hC1⟩
set_option maxRecDepth 100000 in
theorem turnd_err (f n k s : Int) (a1 : Option Addr) (m1 d1 a t : Nat) (W : World) (h1 : ¬ (1500 : Int) < m1) (h2 : ((t : Int) == 0) = false) (L : List UInt8) (e1 : ∀ w', Chg (fun _ => False) W w' → Calls Try.prog 9 #[.agg #[.int .i64 f, .int .i64 n, .int .i64 k, .slice a1 m1 d1], .int .i64 s] w' (GaveBE w' L 50)) : Calls Try.prog 8 #[.agg #[.int .i64 f, .int .i64 n, .int .i64 k, .slice a1 m1 d1], .int .i64 s, .int .u16 a, .int .u32 t] W (True_ W) := by
  go_enter Try.func8, Try.ntmps8
  go_wp2_with fail
  refine (alive_any _).mono ?_
  rintro e w1 ⟨rfl, hC1⟩
  have t0 : w1.cell? ⟨W.heap.size, 0, none⟩ = some (.int .i64 f) := hC1.cell (new_cell W _ _ rfl) id
  have t1 : w1.cell? ⟨W.heap.size, 1, none⟩ = some (.int .i64 n) := hC1.cell (new_cell W _ _ rfl) id
  have t2 : w1.cell? ⟨W.heap.size, 2, none⟩ = some (.int .i64 k) := hC1.cell (new_cell W _ _ rfl) id
  have t3 : w1.cell? ⟨W.heap.size, 3, none⟩ = some (.slice a1 m1 d1) := hC1.cell (new_cell W _ _ rfl) id
  replace hC1 := ((Chg.refl _ W).alloc _).tr hC1
  go_wp2_with fail
  refine (e1 _ hC1).mono ?_
  clear e1
  rintro e w2 ⟨v2, rfl, ho2, hC2⟩
  go_wp2
  go_ret
  exact ⟨rfl, hC1.tr hC2⟩
set_option maxRecDepth 100000 in
set_option maxHeartbeats 1000000 in
theorem turnd_main (f n k s : Int) (a1 : Option Addr) (m1 d1 a t : Nat) (W : World) (h1 : ¬ (1500 : Int) < m1) (h2 : ((t : Int) == 0) = false) (Lst : List UInt8) (L p d : Nat) (hL : Lst.length = L) (hL1 : 128 ≤ L) (hL2 : L ≤ 8192) (hd : d + 63 = 8 * L) (hpa : a % d = p) (hp : p + 32 ≤ 8 * (L - 4)) (ht : t < 4294967296) (ha : a < 65536) (e1 : ∀ w', Chg (fun _ => False) W w' → Calls Try.prog 9 #[.agg #[.int .i64 f, .int .i64 n, .int .i64 k, .slice a1 m1 d1], .int .i64 s] w' (GaveBE w' Lst 0)) (e2 : ∀ w' v, Sl w' v ((xorB Lst (leB (turnX t p 32) Lst.length)).map B) → Calls Try.prog 16 #[v] w' (GaveT w' 0 0 0 [] 50)) (e3 : ∀ w' v, Sl w' v ((xorB Lst (leB (turnX t p 32) Lst.length)).map B) → Calls Try.prog 18 #[v] w' (GaveBo w' false)) : Calls Try.prog 8 #[.agg #[.int .i64 f, .int .i64 n, .int .i64 k, .slice a1 m1 d1], .int .i64 s, .int .u16 a, .int .u32 t] W (True_ W) := by
  go_enter Try.func8, Try.ntmps8
  go_wp2_with fail
  refine (alive_any _).mono ?_
  rintro e w1 ⟨rfl, hC1⟩
  have t0 : w1.cell? ⟨W.heap.size, 0, none⟩ = some (.int .i64 f) := hC1.cell (new_cell W _ _ rfl) id
  have t1 : w1.cell? ⟨W.heap.size, 1, none⟩ = some (.int .i64 n) := hC1.cell (new_cell W _ _ rfl) id
  have t2 : w1.cell? ⟨W.heap.size, 2, none⟩ = some (.int .i64 k) := hC1.cell (new_cell W _ _ rfl) id
  have t3 : w1.cell? ⟨W.heap.size, 3, none⟩ = some (.slice a1 m1 d1) := hC1.cell (new_cell W _ _ rfl) id
  replace hC1 := ((Chg.refl _ W).alloc _).tr hC1
  go_wp2_with fail
  refine (e1 _ hC1).mono ?_
  clear e1
  rintro e w2 ⟨v2, rfl, ho2, hC2⟩
  obtain ⟨g, cap, rfl, hg, hcap, hcap2⟩ := own_some ho2 (by omega)
  have hR2 := rowB_of ho2
  rw [hL] at hcap
  rw [hL]
  have hgW : W.heap.size ≤ g := by have := hC1.size; omega
  have hC12 := hC1.tr hC2
  have u1 : IntKind.i64.wrap ((L : Int) - 4) = (L : Int) - 4 := IntWalk.i64_in _ (by omega)
  have u2 : IntKind.i64.wrap (8 * ((L : Int) - 4)) = 8 * ((L : Int) - 4) := IntWalk.i64_in _ (by omega)
  have u3 : IntKind.i64.wrap (8 * ((L : Int) - 4) - 31) = (d : Int) := by rw [show 8 * ((L : Int) - 4) - 31 = (d : Int) by omega]; exact IntWalk.i64_in _ (by omega)
  have u4 : Int.tmod (a : Int) (d : Int) = (p : Int) := by rw [← hpa]; rfl
  have u5 : ¬ d = 0 := by omega
  have u6 : wrap64 (a : Int) = (a : Int) := wrap_nat a (by omega)
  have u7 : ¬ (L : Int) < 8 := by omega
  have HL := Lib.hid hL
  have HB := Lib.hid (And.intro hL1 (And.intro hL2 (And.intro hp ht)))
  clear t0 t1 t2 t3 ho2 hC1 hC2 hL hL1 hL2 hp hpa ha ht hd hg
  go_wp2
  go_loopw [13] (fun i wr => ∃ j : Nat, j ≤ 32 ∧ i = .int .i64 j ∧ Chg (fun q => q = g) w2 wr ∧ RowB wr g (xorB Lst (leB (turnX t p j) Lst.length)))
    (fun i _ => 32 - (intOf i).toNat)
  case atStart =>
    refine ⟨0, Nat.zero_le _, rfl, Chg.refl _ _, ?_⟩
    rw [show turnX t p 0 = 0 from rfl, xorB_zero]
    exact hR2
  case round =>
    obtain ⟨j, hj, rfl, hCz, hRz⟩ := hrel
    by_cases hlt : j < 32
    · have hj2 : (j : Int) < 32 := by omega
      have hsh : ((t / 2 ^ j : Nat) : Int) = (t : Int) / 2 ^ j := by rw [Int.natCast_ediv]; norm_cast
      have hand := and_u32_one (t / 2 ^ j) (Nat.lt_of_le_of_lt (Nat.div_le_self _ _) HB.out.2.2.2)
      rw [hsh] at hand
      by_cases hb : t / 2 ^ j % 2 = 1
      · rw [hb] at hand
        obtain ⟨s', q, r, P, y, v1, v2, v3, v4, v5, v6, v7, v8, v9, v10, v11, v12, v13, v14, v15, hcl, hfz, hset⟩ := round_one Lst t p j L wr g HL.out (by have := HB.out; omega) (by have := HB.out; omega) hb hRz
        have HSET := Lib.hid hset
        clear hset hRz hb hsh
        go_wp2
        refine ⟨⟨j + 1, by omega, by go_num, hCz.setCell (p := ⟨g, q, none⟩) (.inl rfl) _, ?_⟩, ?_⟩
        · rw [← (show (y ^^^ UInt8.ofNat P).toNat = y.toNat ^^^ P % 256 by rw [UInt8.toNat_xor, UInt8.toNat_ofNat'])]; exact HSET.out
        · first | (simp [intOf]; done) | (simp [intOf]; omega)
      · rw [show t / 2 ^ j % 2 = 0 by omega] at hand
        have HNX := Lib.hid (show turnX t p (j + 1) = turnX t p j from if_neg hb)
        have v1 : IntKind.i64.wrap ((p : Int) + (j : Int)) = (p : Int) + (j : Int) := IntWalk.i64_in _ (by have := HB.out; omega)
        clear hb hsh
        go_wp2
        go_roundw
        case rel => exact ⟨j + 1, by omega, by go_num, hCz, by rw [HNX.out]; exact hRz⟩
        case measure => first | (simp [intOf]; done) | (simp [intOf]; omega)
    · obtain rfl : j = 32 := by omega
      have hC7 : Chg (fun _ => False) W wr := hC12.trans hCz (fun _ _ h => h) (fun k hk h => by omega)
      have hSr := sl_of_row hRz (by rw [xorB_length _ _ (leB_length _ _).symm]; exact HL.out) hcap hcap2
      have q1 := e2 _ _ hSr
      clear hRz e2 hlt hj hR2
      go_wp2_with fail
      refine q1.mono ?_
      clear q1
      rintro e w3 ⟨v3, rfl, ho3, hC3⟩
      obtain ⟨ao3, q3, c3, rfl, hq3⟩ := owns_name ho3
      have hC3' := hC3.alloc (.cells #[.int .i64 0, .int .i64 0, .int .i64 0, .slice ao3 q3 c3] 24)
      have q2 := e3 _ _ (hSr.fr hC3')
      go_wp2_with fail
      refine q2.mono ?_
      clear q2
      rintro e w4 ⟨rfl, hC4⟩
      go_wp2
      go_ret
      exact ⟨rfl, (hC7.tr hC3').tr hC4⟩
theorem tileTurned_walk (f n k : Int) (v : Value) (l : List Int) (s a t : Int) (W : World) (h1 : TileOk W f n k v l) (_ : (Lit.int .i64 s).wf = true) (wa : (Lit.int .u16 a).wf = true) (wt : (Lit.int .u32 t).wf = true) : Calls Try.prog 8 #[tileV f n k v, .int .i64 s, .int .u16 a, .int .u32 t] W (True_ W) := by
  obtain ⟨i1, i2, i3, hS1, hx1⟩ := h1
  obtain ⟨b1, b2⟩ := wf_u16' wa
  obtain ⟨t1, t2⟩ := wf_u32' wt
  obtain ⟨a, rfl⟩ := Int.eq_ofNat_of_zero_le b1
  obtain ⟨t, rfl⟩ := Int.eq_ofNat_of_zero_le t1
  obtain ⟨a1, d1, rfl, _⟩ := hS1.form
  rw [List.length_map] at hS1
  unfold tileV
  rw [List.length_map]
  by_cases h1 : (1500 : Int) < l.length
  · exact turnd_big1 f n k s a1 _ d1 a t W h1
  by_cases h2 : t = 0
  · exact turnd_zero f n k s a1 _ d1 a t W h1 (by subst h2; rfl)
  have h2' : ((t : Int) == 0) = false := beq_eq_false_iff_ne.2 (by omega)
  have e1 := fun w' (hC : Chg (fun _ => False) W w') => tencode_any f n k s _ l w' (hS1.fr hC) (by omega)
  unfold checkE at e1
  unfold tileV at e1
  cases c1 : checkB f n k l s with
  | false =>
    rw [c1, if_neg (by decide)] at e1
    exact turnd_err f n k s a1 _ d1 a t W h1 h2' _ e1
  | true =>
    rw [c1, if_pos rfl] at e1
    obtain ⟨⟨s1, s2⟩, _⟩ := check_bounds c1
    obtain ⟨p0, _⟩ := parse_tile f n k s l i1 hx1 c1 _ rfl
    obtain ⟨L, hL⟩ : ∃ L, tileL f n k l s = L := ⟨_, rfl⟩
    rw [hL] at p0 e1
    have hm := Nat.mod_lt a (show 0 < 8 * L.length - 63 by omega)
    have hp : a % (8 * L.length - 63) + 32 ≤ 8 * (L.length - 4) := by omega
    obtain ⟨q1, q2⟩ := turned_tile f n k s l c1 t (a % (8 * L.length - 63)) (by omega) h2 (by omega) L hL
    refine turnd_main f n k s a1 _ d1 a t W h1 h2' L L.length _ _ rfl (by omega) (by omega) (show 8 * L.length - 63 + 63 = 8 * L.length by omega) rfl hp (by omega) (by omega) e1 (fun w' v hv => ?_) (fun w' v hv => ?_)
    · have hl2 : (xorB L (leB (turnX t (a % (8 * L.length - 63)) 32) L.length)).length = L.length := xorB_length _ _ (leB_length _ _).symm
      have := decode_any v _ w' hv (by omega)
      obtain ⟨z1, z2, z3, z4, z5⟩ := dec_false _ q2
      rw [z1, z2, z3, z4, z5] at this
      exact this
    · have hl2 : (xorB L (leB (turnX t (a % (8 * L.length - 63)) 32) L.length)).length = L.length := xorB_length _ _ (leB_length _ _).symm
      have := sound_any v _ w' hv (by omega)
      rw [q1] at this
      exact this
end Go.Proofs.Ytccpmbonipfmpaa
