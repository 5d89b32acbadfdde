/- Numbers of 128 bits, as the laws have them. -/
import Derived.Test.YtachmmicdjmjkaaScW
import Derived.Laws.Externs
import Derived.Deep.RegionHeld3
namespace Go.Proofs.Ytachmmicdjmjkaa
open Go.RowKit

theorem add64_nat (x y c : Nat) (hc : c ≤ 1) (w : World) : (callFunc 34 #[.int .u64 (x : Int), .int .u64 (y : Int), .int .u64 (c : Int)]).run Try.prog w =
    .ok (.value (.tuple #[.int .u64 (((x + y + c) % 18446744073709551616 : Nat) : Int), .int .u64 (((x + y + c) / 18446744073709551616 : Nat) : Int)])) w := by
  rw [run_callFunc_extern Try.func34 (by kernel_rfl) (by kernel_rfl) (by kernel_rfl) (e := add64Entry) (by kernel_rfl), run_add64 x y c (by omega) (by omega) (by omega) (by omega)]
  simp only [Result.andThen]
  congr 5 <;> omega
theorem add64 (x y c : Int) (hx : 0 ≤ x) (hy : 0 ≤ y) (hc0 : 0 ≤ c) (hc : c ≤ 1) (w : World) : (callFunc 34 #[.int .u64 x, .int .u64 y, .int .u64 c]).run Try.prog w =
    .ok (.value (.tuple #[.int .u64 ((x + y + c) % 18446744073709551616), .int .u64 ((x + y + c) / 18446744073709551616)])) w := by
  obtain ⟨x, rfl⟩ := Int.eq_ofNat_of_zero_le hx
  obtain ⟨y, rfl⟩ := Int.eq_ofNat_of_zero_le hy
  obtain ⟨c, rfl⟩ := Int.eq_ofNat_of_zero_le hc0
  refine (add64_nat x y c (by omega) w).trans ?_
  congr 5 <;> omega
/-- A value. -/
def GaveV (w : World) (v : Value) (e : Ending) (w' : World) : Prop := e = .returned v ∧ Chg (fun _ => False) w w'
def wv (v : Int) : Value := .agg #[.int .u64 (v / 18446744073709551616 % 18446744073709551616), .int .u64 (v % 18446744073709551616)]
theorem of_wv (n : Int) (hn : In n) (w : World) : Calls Try.prog 14 #[.int .i64 n] w (GaveV w (wv n)) := by
  obtain ⟨h, hh⟩ : ∃ h, n / 18446744073709551616 % 18446744073709551616 = h := ⟨_, rfl⟩
  obtain ⟨l, hl⟩ : ∃ l, n % 18446744073709551616 = l := ⟨_, rfl⟩
  unfold In at hn
  have e1 : IntKind.u64.wrap (n / 9223372036854775808) = h := by rw [IntKind.wrap_u64]; omega
  have e2 : IntKind.u64.wrap n = l := by rw [IntKind.wrap_u64]; omega
  unfold wv
  rw [hh, hl]
  clear hh hl hn
  go_enter Try.func14, Try.ntmps14
  go_wp2
  simp [bodyPost, results, Try.results14, go_sem]
  exact ⟨rfl, (Chg.refl _ w).alloc _⟩
theorem plus_way (ah al bh bl ch cl k n : Int)
    (a1 : ∀ w, (callFunc 34 #[.int .u64 al, .int .u64 bl, .int .u64 0]).run Try.prog w = .ok (.value (.tuple #[.int .u64 cl, .int .u64 k])) w)
    (a2 : ∀ w, (callFunc 34 #[.int .u64 ah, .int .u64 bh, .int .u64 k]).run Try.prog w = .ok (.value (.tuple #[.int .u64 ch, .int .u64 n])) w) (w : World) :
    Calls Try.prog 15 #[.agg #[.int .u64 ah, .int .u64 al], .agg #[.int .u64 bh, .int .u64 bl]] w (GaveV w (.agg #[.int .u64 ch, .int .u64 cl])) := by
  go_enter Try.func15, Try.ntmps15
  go_wp2_with (first | simp only [a1] | simp only [a2])
  simp [bodyPost, results, Try.results15, go_sem]
  exact ⟨rfl, (((Chg.refl _ w).alloc _).alloc _).alloc _⟩
theorem plus_wv (u v : Int) (w : World) : Calls Try.prog 15 #[wv u, wv v] w (GaveV w (wv (u + v))) := by
  have e1 : (u % 18446744073709551616 + v % 18446744073709551616 + 0) % 18446744073709551616 = (u + v) % 18446744073709551616 := by omega
  have e2 : (u / 18446744073709551616 % 18446744073709551616 + v / 18446744073709551616 % 18446744073709551616 + (u % 18446744073709551616 + v % 18446744073709551616 + 0) / 18446744073709551616) % 18446744073709551616 = (u + v) / 18446744073709551616 % 18446744073709551616 := by omega
  refine plus_way _ _ _ _ _ _ _ _ (fun w => (add64 _ _ 0 (by omega) (by omega) (by omega) (by omega) w).trans (by rw [e1])) (fun w => (add64 _ _ _ (by omega) (by omega) (by omega) (by omega) w).trans (by rw [e2])) w
theorem not_u64 (h : Int) (h0 : 0 ≤ h) (h1 : h < 18446744073709551616) : bits .xor .u64 IntKind.u64.max h = 18446744073709551615 - h := by
  have e1 : BitVec.ofInt 64 IntKind.u64.max = BitVec.allOnes 64 := by decide
  show IntKind.u64.wrap ((BitVec.ofInt 64 IntKind.u64.max ^^^ BitVec.ofInt 64 h).toNat : Nat) = _
  rw [e1, BitVec.allOnes_xor, BitVec.toNat_not, BitVec.toNat_ofInt, IntKind.wrap_u64]
  have : h % ((2 ^ 64 : Nat) : Int) = h := Int.emod_eq_of_lt h0 h1
  rw [this]
  omega
theorem minus_way (hi lo h' l' a b : Int) (e1 : bits .xor .u64 IntKind.u64.max hi = h') (e2 : bits .xor .u64 IntKind.u64.max lo = l')
    (p : ∀ w, Calls Try.prog 15 #[.agg #[.int .u64 h', .int .u64 l'], .agg #[.int .u64 0, .int .u64 1]] w (GaveV w (.agg #[.int .u64 a, .int .u64 b]))) (w : World) :
    Calls Try.prog 16 #[.agg #[.int .u64 hi, .int .u64 lo]] w (GaveV w (.agg #[.int .u64 a, .int .u64 b])) := by
  go_enter Try.func16, Try.ntmps16
  go_wp2_with fail
  refine (p _).mono ?_
  rintro e w1 ⟨rfl, hC⟩
  have c0 := hC.cell (new_cell (w.alloc (.cells #[.int .u64 hi, .int .u64 lo] 33)) #[.int .u64 0, .int .u64 0] 33 (i := 0) rfl) id
  have c1 := hC.cell (new_cell (w.alloc (.cells #[.int .u64 hi, .int .u64 lo] 33)) #[.int .u64 0, .int .u64 0] 33 (i := 1) rfl) id
  have f0 := hC.frozen (new_cell (w.alloc (.cells #[.int .u64 hi, .int .u64 lo] 33)) #[.int .u64 0, .int .u64 0] 33 (i := 0) rfl) (new_frozen _ _ _ _) id
  have f1 := hC.frozen (new_cell (w.alloc (.cells #[.int .u64 hi, .int .u64 lo] 33)) #[.int .u64 0, .int .u64 0] 33 (i := 1) rfl) (new_frozen _ _ _ _) id
  rw [World.size_alloc] at c0 c1 f0 f1
  have g0 : (w1.setCell ⟨w.heap.size + 1, 0, none⟩ (.int .u64 a)).cell? ⟨w.heap.size + 1, 0, none⟩ = some (.int .u64 a) := World.cell?_setCell_same' _ _ _ (by rw [c0]; rfl)
  have g1 : ((w1.setCell ⟨w.heap.size + 1, 0, none⟩ (.int .u64 a)).setCell ⟨w.heap.size + 1, 1, none⟩ (.int .u64 b)).cell? ⟨w.heap.size + 1, 1, none⟩ = some (.int .u64 b) := World.cell?_setCell_same' _ _ _ (by rw [World.cell?_setCell_other _ _ _ _ (by simp), c1]; rfl)
  go_wp2
  simp [bodyPost, results, Try.results16, go_sem, g0, g1]
  exact ⟨rfl, (((((Chg.refl _ w).alloc _).alloc _).tr hC).setCell (p := ⟨w.heap.size + 1, 0, none⟩) (.inr (Nat.le_succ _)) _).setCell (p := ⟨w.heap.size + 1, 1, none⟩) (.inr (Nat.le_succ _)) _⟩
theorem prod_tt (x y h l h' : Int) (p q : Nat) (w : World) (h1 : IntKind.u64.wrap x = p) (h2 : IntKind.u64.wrap y = q) 
    (m1 : ∀ w, Calls Try.prog 35 #[.int .u64 (p : Int), .int .u64 (q : Int)] w fun e w' => e = .returned (.tuple #[.int .u64 h, .int .u64 l]) ∧ w' = w) (hx : decide (x < 0) = true) (hy : decide (y < 0) = true) (hh : IntKind.u64.wrap (IntKind.u64.wrap (h - q) - p) = h') :
    Calls Try.prog 17 #[.int .i64 x, .int .i64 y] w (GaveV w (.agg #[.int .u64 h', .int .u64 l])) := by
  go_enter Try.func17, Try.ntmps17
  go_wp2_with (go_at_call 35; (with_reducible refine (m1 _).mono ?_); rintro e w' ⟨rfl, rfl⟩)
  simp [bodyPost, results, Try.results17, go_sem]
  exact ⟨rfl, (Chg.refl _ w).alloc _⟩
theorem prod_tf (x y h l h' : Int) (p q : Nat) (w : World) (h1 : IntKind.u64.wrap x = p) (h2 : IntKind.u64.wrap y = q) 
    (m1 : ∀ w, Calls Try.prog 35 #[.int .u64 (p : Int), .int .u64 (q : Int)] w fun e w' => e = .returned (.tuple #[.int .u64 h, .int .u64 l]) ∧ w' = w) (hx : decide (x < 0) = true) (hy : decide (y < 0) = false) (hh : IntKind.u64.wrap (h - q) = h') :
    Calls Try.prog 17 #[.int .i64 x, .int .i64 y] w (GaveV w (.agg #[.int .u64 h', .int .u64 l])) := by
  go_enter Try.func17, Try.ntmps17
  go_wp2_with (go_at_call 35; (with_reducible refine (m1 _).mono ?_); rintro e w' ⟨rfl, rfl⟩)
  simp [bodyPost, results, Try.results17, go_sem]
  exact ⟨rfl, (Chg.refl _ w).alloc _⟩
theorem prod_ft (x y h l h' : Int) (p q : Nat) (w : World) (h1 : IntKind.u64.wrap x = p) (h2 : IntKind.u64.wrap y = q) 
    (m1 : ∀ w, Calls Try.prog 35 #[.int .u64 (p : Int), .int .u64 (q : Int)] w fun e w' => e = .returned (.tuple #[.int .u64 h, .int .u64 l]) ∧ w' = w) (hx : decide (x < 0) = false) (hy : decide (y < 0) = true) (hh : IntKind.u64.wrap (h - p) = h') :
    Calls Try.prog 17 #[.int .i64 x, .int .i64 y] w (GaveV w (.agg #[.int .u64 h', .int .u64 l])) := by
  go_enter Try.func17, Try.ntmps17
  go_wp2_with (go_at_call 35; (with_reducible refine (m1 _).mono ?_); rintro e w' ⟨rfl, rfl⟩)
  simp [bodyPost, results, Try.results17, go_sem]
  exact ⟨rfl, (Chg.refl _ w).alloc _⟩
theorem prod_ff (x y h l h' : Int) (p q : Nat) (w : World) (h1 : IntKind.u64.wrap x = p) (h2 : IntKind.u64.wrap y = q) 
    (m1 : ∀ w, Calls Try.prog 35 #[.int .u64 (p : Int), .int .u64 (q : Int)] w fun e w' => e = .returned (.tuple #[.int .u64 h, .int .u64 l]) ∧ w' = w) (hx : decide (x < 0) = false) (hy : decide (y < 0) = false) (hh : h = h') :
    Calls Try.prog 17 #[.int .i64 x, .int .i64 y] w (GaveV w (.agg #[.int .u64 h', .int .u64 l])) := by
  go_enter Try.func17, Try.ntmps17
  go_wp2_with (go_at_call 35; (with_reducible refine (m1 _).mono ?_); rintro e w' ⟨rfl, rfl⟩)
  simp [bodyPost, results, Try.results17, go_sem]
  exact ⟨rfl, (Chg.refl _ w).alloc _⟩
theorem so_fit (n l : Int) (h : Int) (w : World) (e1 : IntKind.i64.wrap l = n) (o : ∀ w, Calls Try.prog 14 #[.int .i64 n] w (GaveV w (.agg #[.int .u64 h, .int .u64 l]))) : Calls Try.prog 13 #[.int .i64 n, .int .i64 0, .agg #[.int .u64 h, .int .u64 l]] w (True_ w) := by
  go_enter Try.func13, Try.ntmps13
  go_wp2_with fail
  go_region_held3 (fun w' => Chg (fun _ => False) (w.alloc (.cells #[.int .u64 h, .int .u64 l] 33)).drew w' ∧ w'.cell? ⟨w.heap.size, 0, none⟩ = some (.int .u64 h) ∧ w'.cell? ⟨w.heap.size, 1, none⟩ = some (.int .u64 l)) (first | exact ⟨Chg.refl _ _, new_cell w _ _ rfl, new_cell w _ _ rfl⟩ | exact ⟨hC1, hC1.cell (new_cell w _ _ rfl) id, hC1.cell (new_cell w _ _ rfl) id⟩)
    (first | (go_at_call 14; (with_reducible refine (o _).mono ?_); rintro e w1 ⟨rfl, hC1⟩; have k0 : w1.cell? ⟨w.heap.size, 0, none⟩ = some (.int .u64 h) := hC1.cell (new_cell w _ _ rfl) id; have k1 : w1.cell? ⟨w.heap.size, 1, none⟩ = some (.int .u64 l) := hC1.cell (new_cell w _ _ rfl) id))
  all_goals
    go_wp2
    go_ret
    exact ⟨rfl, (((Chg.refl _ w).alloc _).drew).tr hC1⟩
theorem so_over (n l : Int) (h h' : Int) (hne : (h' == h) = false) (w : World) (e1 : IntKind.i64.wrap l = n) (o : ∀ w, Calls Try.prog 14 #[.int .i64 n] w (GaveV w (.agg #[.int .u64 h', .int .u64 l]))) : Calls Try.prog 13 #[.int .i64 0, .int .i64 7, .agg #[.int .u64 h, .int .u64 l]] w (True_ w) := by
  go_enter Try.func13, Try.ntmps13
  go_wp2_with fail
  go_region_held3 (fun w' => Chg (fun _ => False) (w.alloc (.cells #[.int .u64 h, .int .u64 l] 33)).drew w' ∧ w'.cell? ⟨w.heap.size, 0, none⟩ = some (.int .u64 h) ∧ w'.cell? ⟨w.heap.size, 1, none⟩ = some (.int .u64 l)) (first | exact ⟨Chg.refl _ _, new_cell w _ _ rfl, new_cell w _ _ rfl⟩ | exact ⟨hC1, hC1.cell (new_cell w _ _ rfl) id, hC1.cell (new_cell w _ _ rfl) id⟩)
    (first | (go_at_call 14; (with_reducible refine (o _).mono ?_); rintro e w1 ⟨rfl, hC1⟩; have k0 : w1.cell? ⟨w.heap.size, 0, none⟩ = some (.int .u64 h) := hC1.cell (new_cell w _ _ rfl) id; have k1 : w1.cell? ⟨w.heap.size, 1, none⟩ = some (.int .u64 l) := hC1.cell (new_cell w _ _ rfl) id))
  all_goals
    go_wp2
    go_ret
    exact ⟨rfl, (((Chg.refl _ w).alloc _).drew).tr hC1⟩
theorem minus_wv (v : Int) (w : World) : Calls Try.prog 16 #[wv v] w (GaveV w (wv (-v))) := by
  have e1 := not_u64 (v / 18446744073709551616 % 18446744073709551616) (by omega) (by omega)
  have e2 := not_u64 (v % 18446744073709551616) (by omega) (by omega)
  refine minus_way _ _ _ _ _ _ e1 e2 (fun w => ?_) w
  have hp := plus_wv (-1 - v) 1 w
  unfold wv at hp
  rw [show -1 - v + 1 = -v by omega, show (-1 - v) / 18446744073709551616 % 18446744073709551616 = 18446744073709551615 - v / 18446744073709551616 % 18446744073709551616 by omega, show (-1 - v) % 18446744073709551616 = 18446744073709551615 - v % 18446744073709551616 by omega] at hp
  exact hp
theorem prod_wv (x y : Int) (hx : In x) (hy : In y) (w : World) : Calls Try.prog 17 #[.int .i64 x, .int .i64 y] w (GaveV w (wv (x * y))) := by
  unfold In at hx hy
  have key : ∀ (p q : Nat) (a b : Int), (p : Int) = x + 18446744073709551616 * a → (q : Int) = y + 18446744073709551616 * b → (((p * q : Nat) : Int)) = x * y + 18446744073709551616 * (x * b + a * y) + 340282366920938463463374607431768211456 * (a * b) := by
    intro p q a b h1 h2
    have e1 : x * (18446744073709551616 * b) = 18446744073709551616 * (x * b) := Int.mul_left_comm _ _ _
    have e2 : 18446744073709551616 * a * y = 18446744073709551616 * (a * y) := Int.mul_assoc _ _ _
    have e3 : 18446744073709551616 * a * (18446744073709551616 * b) = 18446744073709551616 * (18446744073709551616 * (a * b)) := by rw [Int.mul_assoc, Int.mul_left_comm a]
    rw [Int.natCast_mul, h1, h2, Int.add_mul, Int.mul_add, Int.mul_add, e1, e2, e3]
    omega
  by_cases h1 : x < 0 <;> by_cases h2 : y < 0
  · obtain ⟨p, hp⟩ := Int.eq_ofNat_of_zero_le (show 0 ≤ x + 18446744073709551616 by omega)
    obtain ⟨q, hq⟩ := Int.eq_ofNat_of_zero_le (show 0 ≤ y + 18446744073709551616 by omega)
    have hk := key p q 1 1 (by omega) (by omega)
    have hm := mul64_any p q (by omega) (by omega)
    generalize p * q = pq at *
    generalize x * y = z at *
    have hh : IntKind.u64.wrap (IntKind.u64.wrap (((pq / 18446744073709551616 : Nat) : Int) - q) - p) = z / 18446744073709551616 % 18446744073709551616 := by rw [IntKind.wrap_u64, IntKind.wrap_u64]; omega
    have hl : ((pq % 18446744073709551616 : Nat) : Int) = z % 18446744073709551616 := by omega
    unfold wv
    rw [← hl]
    exact prod_tt x y _ _ _ p q w (by rw [IntKind.wrap_u64]; omega) (by rw [IntKind.wrap_u64]; omega) hm (decide_eq_true h1) (decide_eq_true h2) hh
  · obtain ⟨p, hp⟩ := Int.eq_ofNat_of_zero_le (show 0 ≤ x + 18446744073709551616 by omega)
    obtain ⟨q, hq⟩ := Int.eq_ofNat_of_zero_le (show 0 ≤ y by omega)
    have hk := key p q 1 0 (by omega) (by omega)
    have hm := mul64_any p q (by omega) (by omega)
    generalize p * q = pq at *
    generalize x * y = z at *
    have hh : IntKind.u64.wrap (((pq / 18446744073709551616 : Nat) : Int) - q) = z / 18446744073709551616 % 18446744073709551616 := by rw [IntKind.wrap_u64]; omega
    have hl : ((pq % 18446744073709551616 : Nat) : Int) = z % 18446744073709551616 := by omega
    unfold wv
    rw [← hl]
    exact prod_tf x y _ _ _ p q w (by rw [IntKind.wrap_u64]; omega) (by rw [IntKind.wrap_u64]; omega) hm (decide_eq_true h1) (decide_eq_false h2) hh
  · obtain ⟨p, hp⟩ := Int.eq_ofNat_of_zero_le (show 0 ≤ x by omega)
    obtain ⟨q, hq⟩ := Int.eq_ofNat_of_zero_le (show 0 ≤ y + 18446744073709551616 by omega)
    have hk := key p q 0 1 (by omega) (by omega)
    have hm := mul64_any p q (by omega) (by omega)
    generalize p * q = pq at *
    generalize x * y = z at *
    have hh : IntKind.u64.wrap (((pq / 18446744073709551616 : Nat) : Int) - p) = z / 18446744073709551616 % 18446744073709551616 := by rw [IntKind.wrap_u64]; omega
    have hl : ((pq % 18446744073709551616 : Nat) : Int) = z % 18446744073709551616 := by omega
    unfold wv
    rw [← hl]
    exact prod_ft x y _ _ _ p q w (by rw [IntKind.wrap_u64]; omega) (by rw [IntKind.wrap_u64]; omega) hm (decide_eq_false h1) (decide_eq_true h2) hh
  · obtain ⟨p, hp⟩ := Int.eq_ofNat_of_zero_le (show 0 ≤ x by omega)
    obtain ⟨q, hq⟩ := Int.eq_ofNat_of_zero_le (show 0 ≤ y by omega)
    have hk := key p q 0 0 (by omega) (by omega)
    have hb : p * q ≤ 9223372036854775808 * 9223372036854775808 := Nat.mul_le_mul (by omega) (by omega)
    have hm := mul64_any p q (by omega) (by omega)
    generalize p * q = pq at *
    generalize x * y = z at *
    have hh : ((pq / 18446744073709551616 : Nat) : Int) = z / 18446744073709551616 % 18446744073709551616 := by omega
    have hl : ((pq % 18446744073709551616 : Nat) : Int) = z % 18446744073709551616 := by omega
    unfold wv
    rw [← hl]
    exact prod_ff x y _ _ _ p q w (by rw [IntKind.wrap_u64]; omega) (by rw [IntKind.wrap_u64]; omega) hm (decide_eq_false h1) (decide_eq_false h2) hh
theorem so_wv (v : Int) (h1 : -170141183460469231731687303715884105728 ≤ v) (h2 : v < 170141183460469231731687303715884105728) (w : World) : Calls Try.prog 13 #[.int .i64 (fitN v), .int .i64 (fitE v), wv v] w (True_ w) := by
  by_cases hv : In v
  · rw [fitN_in hv, fitE_in hv]
    have ho := of_wv v hv
    refine so_fit v _ _ w ?_ ho
    unfold In at hv
    rw [IntKind.wrap_i64]
    omega
  · rw [fitN_out hv, fitE_out hv]
    obtain ⟨n, hn⟩ : ∃ n, IntKind.i64.wrap (v % 18446744073709551616) = n := ⟨_, rfl⟩
    have hn' := hn
    rw [IntKind.wrap_i64] at hn'
    have hnI : In n := by unfold In; omega
    have ho := of_wv n hnI
    unfold wv at ho ⊢
    rw [show n % 18446744073709551616 = v % 18446744073709551616 by omega] at ho
    refine so_over n _ _ _ ?_ w hn ho
    apply beq_eq_false_iff_ne.2
    unfold In at hv hnI
    omega
end Go.Proofs.Ytachmmicdjmjkaa
