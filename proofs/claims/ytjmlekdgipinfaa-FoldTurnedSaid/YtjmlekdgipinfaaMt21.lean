/- fold: turn.Transpose, walked (out of wip/turn's XTrS). -/
import Derived.Test.YtjmlekdgipinfaaMt11
import Derived.Test.YtjmlekdgipinfaaMt20
import Derived.Test.YtjmlekdgipinfaaMt0
import Derived.Test.YtjmlekdgipinfaaRows
namespace Go.Proofs.Ytjmlekdgipinfaa
open Go.RowKit Go.Shelf

theorem tab_prod {s : List Int} (h : shB s = true) (f : Nat → Int × Int) : ((tabG (cnt s) f).length : Int) = prodL s := by
  rw [tabG_length, cnt_int, cntN_ok h]
/-- A way within a shape that may be. -/
def GoodW (W : Wy) : Prop := W.n = 0 → shB W.s = true ∧ (W.g.length : Int) = prodL W.s
theorem toldW_good {s : List Int} {W : Wy} (h : shB s = true → GoodW W) : GoodW (toldW s W) := by
  unfold toldW
  cases hs : shB s with
  | true => exact h hs
  | false => exact fun h => absurd h (show ¬ (110 : Int) = 0 by decide)
theorem axG_good {s : List Int} {p : List Nat} (hs : shB s = true) (hp : p.Perm (List.range s.length)) (n : Int) : GoodW ⟨outL s p, axG s p, n⟩ := fun _ => ⟨(shB_perm (outL_perm hp)).trans hs, by
  show ((axG s p).length : Int) = prodL (outL s p)
  rw [prodL_perm (outL_perm hp)]
  exact tab_prod hs _⟩
theorem traW_good (s : List Int) : GoodW (toldW s (traW s)) := toldW_good (fun hs => axG_good hs (aboP_perm _) 0)
set_option maxHeartbeats 1000000 in
theorem ttra_any (v : Value) (A : Ar) (w : World) (hA : Ara w v A) (hsl : A.s.length ≤ 1000000) (hle : A.e.length ≤ 1000000) : Calls Try.prog 44 #[v] w (GaveAE w (tgA (toldW A.s (traW A.s)) A) (tgN (toldW A.s (traW A.s)) A)) := by
  have hA' := hA
  obtain ⟨k, t, e⟩ := A
  obtain ⟨vt, ve, hv, ht, he⟩ := hA
  simp only at hv ht he hle hsl
  subst hv
  obtain ⟨ta, ct, rfl, _⟩ := ht.form
  obtain ⟨ae, ce, rfl, _⟩ := he.form
  have hC0 := ((Chg.refl (fun _ => False) w).alloc (.cells #[.int .i64 k, .slice ta t.length ct, .slice ae e.length ce] 25)).alloc (.cells #[.int .i64 0, .slice none 0 0, .slice none 0 0] 25)
  have hB0 := Bx.new (w.alloc (.cells #[.int .i64 k, .slice ta t.length ct, .slice ae e.length ce] 25)) (.int .i64 0) (.slice none 0 0) (.slice none 0 0) 25
  simp only [World.size_alloc] at hB0
  have hg := gone_any 80 #[] (enters_of Try.func80 (by kernel_rfl) rfl) (toldW t (traW t)) _ ⟨k, t, e⟩ _ (hA'.fr hC0) hle (fun v' w' _ h => traway_any v' t w' h hsl) (traW_good t)
  generalize tgA (toldW t (traW t)) ⟨k, t, e⟩ = AA at *
  generalize tgN (toldW t (traW t)) ⟨k, t, e⟩ = NN at *
  clear ht he hA'
  go_enter Try.func44, Try.ntmps44
  go_wp2_with fail
  refine hg.mono ?_
  clear hg
  rintro e9 w4 ⟨v4, rfl, ho4, hC4⟩
  obtain ⟨a5, c5, a6, c6, hv4, q1, q2⟩ := ara_new ho4
  subst hv4
  have hb4 := hB0.lt
  obtain ⟨z0, z1, z2, x0, x1, x2⟩ := hB0.fr hC4
  obtain ⟨⟨g0, g1⟩, g2⟩ := set3_cells (.int .i64 AA.k) (.slice a5 AA.s.length c5) (.slice a6 AA.e.length c6) z0 z1 z2
  have HC4 := Lib.hid (hC0.tr hC4)
  have HB4 := Lib.hid hb4
  clear hC4 ho4 hB0 hC0 hb4
  go_wp2
  simp [bodyPost, results, Try.results44, go_sem, g0, g1, g2]
  show GaveAE w ⟨AA.k, AA.s, AA.e⟩ NN _ _
  exact leaveAE q1 q2 (by omega) HB4.out HB4.out HC4.out
end Go.Proofs.Ytjmlekdgipinfaa
/- The functions of numbers: adding, and what stands under it. -/
namespace Go.Proofs.Ytjmlekdgipinfaa
open Go.RowKit

/-- A number of 64 bits. -/
def In (n : Int) : Prop := -9223372036854775808 ≤ n ∧ n ≤ 9223372036854775807
/-- A number, or the error. -/
def fitN (n : Int) : Int := if -9223372036854775808 ≤ n ∧ n ≤ 9223372036854775807 then n else 0
def fitE (n : Int) : Int := if -9223372036854775808 ≤ n ∧ n ≤ 9223372036854775807 then 0 else 7
theorem fitN_in {n : Int} (h : In n) : fitN n = n := if_pos h
theorem fitE_in {n : Int} (h : In n) : fitE n = 0 := if_pos h
theorem fitN_out {n : Int} (h : ¬ In n) : fitN n = 0 := if_neg h
theorem fitE_out {n : Int} (h : ¬ In n) : fitE n = 7 := if_neg h
/-- A number and an error. -/
def GaveP (w : World) (a b : Int) (e : Ending) (w' : World) : Prop := e = .returned (.tuple #[.int .i64 a, .int .i64 b]) ∧ Chg (fun _ => False) w w'

theorem checked_yes (n : Int) (w : World) : Calls Try.prog 120 #[.int .i64 n, .bool true] w (GaveP w n 0) := by
  go_enter Try.func120, Try.ntmps120
  go_wp2
  go_ret2
  exact ⟨rfl, Chg.refl _ _⟩
theorem checked_no (n : Int) (w : World) : Calls Try.prog 120 #[.int .i64 n, .bool false] w (GaveP w 0 7) := by
  go_enter Try.func120, Try.ntmps120
  go_wp2
  go_ret2
  exact ⟨rfl, Chg.refl _ _⟩
theorem checked_any (n m : Int) (b : Bool) (w : World) (h1 : b = true → In m ∧ n = m) (h2 : b = false → ¬ In m) : Calls Try.prog 120 #[.int .i64 n, .bool b] w (GaveP w (fitN m) (fitE m)) := by
  cases b with
  | true =>
    obtain ⟨h, rfl⟩ := h1 rfl
    rw [fitN_in h, fitE_in h]
    exact checked_yes _ w
  | false =>
    rw [fitN_out (h2 rfl), fitE_out (h2 rfl)]
    exact checked_no _ w
theorem Chg.cells1 {w w' : World} {o : Obj} (h : Chg (fun _ => False) (w.alloc o) w') : Chg (fun _ => False) w w' := ((Chg.refl _ w).alloc o).tr h
theorem wrap_cases (n m : Int) (h : IntKind.i64.wrap n = m) : ∃ k : Int, m = n + 18446744073709551616 * k ∧ In m := by
  rw [IntKind.wrap_i64] at h
  unfold In
  exact ⟨(m - n) / 18446744073709551616, by omega, by omega⟩
theorem add_plain {x y n : Int} (hx : In x) (hy : In y) (hn : IntKind.i64.wrap (x + y) = n) : (((x < n ↔ 0 < y) ∨ y = 0) → In (x + y) ∧ n = x + y) ∧ (¬ ((x < n ↔ 0 < y) ∨ y = 0) → ¬ In (x + y)) := by
  obtain ⟨k, hk, h1⟩ := wrap_cases _ _ hn
  unfold In at *
  constructor <;> intro h <;> omega
theorem sub_plain {x y n : Int} (hx : In x) (hy : In y) (hn : IntKind.i64.wrap (x - y) = n) : (((n < x ↔ 0 < y) ∨ y = 0) → In (x - y) ∧ n = x - y) ∧ (¬ ((n < x ↔ 0 < y) ∨ y = 0) → ¬ In (x - y)) := by
  obtain ⟨k, hk, h1⟩ := wrap_cases _ _ hn
  unfold In at *
  constructor <;> intro h <;> omega
theorem add_any (x y : Int) (hx : In x) (hy : In y) (w : World) : Calls Try.prog 90 #[.agg #[.int .i64 x, .int .i64 y]] w (GaveP w (fitN (x + y)) (fitE (x + y))) := by
  obtain ⟨n, hn⟩ : ∃ n, IntKind.i64.wrap (x + y) = n := ⟨_, rfl⟩
  obtain ⟨p1, p2⟩ := add_plain hx hy hn
  have P1 := Lib.hid p1
  have P2 := Lib.hid p2
  clear p1 p2 hx hy
  go_enter Try.func90, Try.ntmps90
  go_wp2_with fail
  · rename_i h _ _
    refine (checked_any _ (x + y) _ _ (fun _ => P1.out (Or.inl h)) (fun e => by cases e)).mono ?_
    rintro e w' ⟨rfl, hC⟩
    go_wp2
    go_ret2
    exact ⟨rfl, hC.cells1⟩
  · rename_i h _ _
    refine (checked_any _ (x + y) _ _ (fun e => P1.out ?_) (fun e => P2.out ?_)).mono ?_
    · simpa using e
    · simpa using e
    rintro e w' ⟨rfl, hC⟩
    go_wp2
    go_ret2
    exact ⟨rfl, hC.cells1⟩
theorem sub_any (x y : Int) (hx : In x) (hy : In y) (w : World) : Calls Try.prog 91 #[.agg #[.int .i64 x, .int .i64 y]] w (GaveP w (fitN (x - y)) (fitE (x - y))) := by
  obtain ⟨n, hn⟩ : ∃ n, IntKind.i64.wrap (x - y) = n := ⟨_, rfl⟩
  obtain ⟨p1, p2⟩ := sub_plain hx hy hn
  have P1 := Lib.hid p1
  have P2 := Lib.hid p2
  clear p1 p2 hx hy
  go_enter Try.func91, Try.ntmps91
  go_wp2_with fail
  · rename_i h _ _
    refine (checked_any _ (x - y) _ _ (fun _ => P1.out (Or.inl h)) (fun e => by cases e)).mono ?_
    rintro e w' ⟨rfl, hC⟩
    go_wp2
    go_ret2
    exact ⟨rfl, hC.cells1⟩
  · rename_i h _ _
    refine (checked_any _ (x - y) _ _ (fun e => P1.out ?_) (fun e => P2.out ?_)).mono ?_
    · simpa using e
    · simpa using e
    rintro e w' ⟨rfl, hC⟩
    go_wp2
    go_ret2
    exact ⟨rfl, hC.cells1⟩
theorem size_any (x : Int) (hx : In x) (w : World) : Calls Try.prog 122 #[.int .i64 x] w (fun e w' => e = .returned (.int .u64 (x.natAbs : Int)) ∧ w' = w) := by
  obtain ⟨x1, x2⟩ := hx
  by_cases h : x < 0
  · have e1 : IntKind.u64.wrap x = x + 18446744073709551616 := by rw [IntKind.wrap_u64]; omega
    have e2 : IntKind.u64.wrap (-(x + 18446744073709551616)) = (x.natAbs : Int) := by rw [IntKind.wrap_u64]; omega
    go_enter Try.func122, Try.ntmps122
    go_wp2
    go_ret
    exact ⟨rfl, rfl⟩
  · have e1 : IntKind.u64.wrap x = (x.natAbs : Int) := by rw [IntKind.wrap_u64]; omega
    go_enter Try.func122, Try.ntmps122
    go_wp2
    go_ret
    exact ⟨rfl, rfl⟩
theorem signed_neg (n : Nat) (w : World) (hn : n < 18446744073709551616) : Calls Try.prog 123 #[.int .u64 (n : Int), .bool true] w (GaveP w (fitN (-(n : Int))) (fitE (-(n : Int)))) := by
  obtain ⟨m, hm⟩ : ∃ m, IntKind.i64.wrap (IntKind.u64.wrap (-(n : Int))) = m := ⟨_, rfl⟩
  have hm' := hm
  rw [IntKind.wrap_i64, IntKind.wrap_u64] at hm'
  have P := Lib.hid (show (n ≤ 9223372036854775808 → In (-(n : Int)) ∧ m = -(n : Int)) ∧ (¬ n ≤ 9223372036854775808 → ¬ In (-(n : Int))) by unfold In; omega)
  clear hm'
  go_enter Try.func123, Try.ntmps123
  go_wp2_with fail
  refine (checked_any _ (-(n : Int)) _ _ (fun e => P.out.1 ?_) (fun e => P.out.2 ?_)).mono ?_
  · simp at e; omega
  · simp at e; omega
  rintro e w' ⟨rfl, hC⟩
  go_wp2
  go_ret2
  exact ⟨rfl, hC⟩
theorem signed_pos (n : Nat) (w : World) (hn : n < 18446744073709551616) : Calls Try.prog 123 #[.int .u64 (n : Int), .bool false] w (GaveP w (fitN (n : Int)) (fitE (n : Int))) := by
  obtain ⟨m, hm⟩ : ∃ m, IntKind.i64.wrap (n : Int) = m := ⟨_, rfl⟩
  have hm' := hm
  rw [IntKind.wrap_i64] at hm'
  have P := Lib.hid (show (n ≤ 9223372036854775807 → In (n : Int) ∧ m = (n : Int)) ∧ (¬ n ≤ 9223372036854775807 → ¬ In (n : Int)) by unfold In; omega)
  clear hm'
  go_enter Try.func123, Try.ntmps123
  go_wp2_with fail
  refine (checked_any _ (n : Int) _ _ (fun e => P.out.1 ?_) (fun e => P.out.2 ?_)).mono ?_
  · simp at e; omega
  · simp at e; omega
  rintro e w' ⟨rfl, hC⟩
  go_wp2
  go_ret2
  exact ⟨rfl, hC⟩
end Go.Proofs.Ytjmlekdgipinfaa
