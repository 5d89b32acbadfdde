/- The functions of numbers: adding, and what stands under it. -/
import Derived.Test.YtjmlekdgipinfaaMp0
import Derived.Test.YtjmlekdgipinfaaRows
namespace Go.Proofs.Ytjmlekdgipinfaa
open Go.RowKit

/-- A number of 64 bits. -/
def In (n : Int) : Prop := -9223372036854775808 ≤ n ∧ n ≤ 9223372036854775807
/-- A number, or the error. -/
def fitN (n : Int) : Int := if -9223372036854775808 ≤ n ∧ n ≤ 9223372036854775807 then n else 0
def fitE (n : Int) : Int := if -9223372036854775808 ≤ n ∧ n ≤ 9223372036854775807 then 0 else 7
theorem fitN_in {n : Int} (h : In n) : fitN n = n := if_pos h
theorem fitE_in {n : Int} (h : In n) : fitE n = 0 := if_pos h
theorem fitN_out {n : Int} (h : ¬ In n) : fitN n = 0 := if_neg h
theorem fitE_out {n : Int} (h : ¬ In n) : fitE n = 7 := if_neg h
/-- A number and an error. -/
def GaveP (w : World) (a b : Int) (e : Ending) (w' : World) : Prop := e = .returned (.tuple #[.int .i64 a, .int .i64 b]) ∧ Chg (fun _ => False) w w'

theorem checked_yes (n : Int) (w : World) : Calls Try.prog 120 #[.int .i64 n, .bool true] w (GaveP w n 0) := by
  go_enter Try.func120, Try.ntmps120
  go_wp2
  go_ret2
  exact ⟨rfl, Chg.refl _ _⟩
theorem checked_no (n : Int) (w : World) : Calls Try.prog 120 #[.int .i64 n, .bool false] w (GaveP w 0 7) := by
  go_enter Try.func120, Try.ntmps120
  go_wp2
  go_ret2
  exact ⟨rfl, Chg.refl _ _⟩
theorem checked_any (n m : Int) (b : Bool) (w : World) (h1 : b = true → In m ∧ n = m) (h2 : b = false → ¬ In m) : Calls Try.prog 120 #[.int .i64 n, .bool b] w (GaveP w (fitN m) (fitE m)) := by
  cases b with
  | true =>
    obtain ⟨h, rfl⟩ := h1 rfl
    rw [fitN_in h, fitE_in h]
    exact checked_yes _ w
  | false =>
    rw [fitN_out (h2 rfl), fitE_out (h2 rfl)]
    exact checked_no _ w
theorem Chg.cells1 {w w' : World} {o : Obj} (h : Chg (fun _ => False) (w.alloc o) w') : Chg (fun _ => False) w w' := ((Chg.refl _ w).alloc o).tr h
theorem wrap_cases (n m : Int) (h : IntKind.i64.wrap n = m) : ∃ k : Int, m = n + 18446744073709551616 * k ∧ In m := by
  rw [IntKind.wrap_i64] at h
  unfold In
  exact ⟨(m - n) / 18446744073709551616, by omega, by omega⟩
theorem add_plain {x y n : Int} (hx : In x) (hy : In y) (hn : IntKind.i64.wrap (x + y) = n) : (((x < n ↔ 0 < y) ∨ y = 0) → In (x + y) ∧ n = x + y) ∧ (¬ ((x < n ↔ 0 < y) ∨ y = 0) → ¬ In (x + y)) := by
  obtain ⟨k, hk, h1⟩ := wrap_cases _ _ hn
  unfold In at *
  constructor <;> intro h <;> omega
theorem sub_plain {x y n : Int} (hx : In x) (hy : In y) (hn : IntKind.i64.wrap (x - y) = n) : (((n < x ↔ 0 < y) ∨ y = 0) → In (x - y) ∧ n = x - y) ∧ (¬ ((n < x ↔ 0 < y) ∨ y = 0) → ¬ In (x - y)) := by
  obtain ⟨k, hk, h1⟩ := wrap_cases _ _ hn
  unfold In at *
  constructor <;> intro h <;> omega
theorem add_any (x y : Int) (hx : In x) (hy : In y) (w : World) : Calls Try.prog 90 #[.agg #[.int .i64 x, .int .i64 y]] w (GaveP w (fitN (x + y)) (fitE (x + y))) := by
  obtain ⟨n, hn⟩ : ∃ n, IntKind.i64.wrap (x + y) = n := ⟨_, rfl⟩
  obtain ⟨p1, p2⟩ := add_plain hx hy hn
  have P1 := Lib.hid p1
  have P2 := Lib.hid p2
  clear p1 p2 hx hy
  go_enter Try.func90, Try.ntmps90
  go_wp2_with fail
  · rename_i h _ _
    refine (checked_any _ (x + y) _ _ (fun _ => P1.out (Or.inl h)) (fun e => by cases e)).mono ?_
    rintro e w' ⟨rfl, hC⟩
    go_wp2
    go_ret2
    exact ⟨rfl, hC.cells1⟩
  · rename_i h _ _
    refine (checked_any _ (x + y) _ _ (fun e => P1.out ?_) (fun e => P2.out ?_)).mono ?_
    · simpa using e
    · simpa using e
    rintro e w' ⟨rfl, hC⟩
    go_wp2
    go_ret2
    exact ⟨rfl, hC.cells1⟩
theorem sub_any (x y : Int) (hx : In x) (hy : In y) (w : World) : Calls Try.prog 91 #[.agg #[.int .i64 x, .int .i64 y]] w (GaveP w (fitN (x - y)) (fitE (x - y))) := by
  obtain ⟨n, hn⟩ : ∃ n, IntKind.i64.wrap (x - y) = n := ⟨_, rfl⟩
  obtain ⟨p1, p2⟩ := sub_plain hx hy hn
  have P1 := Lib.hid p1
  have P2 := Lib.hid p2
  clear p1 p2 hx hy
  go_enter Try.func91, Try.ntmps91
  go_wp2_with fail
  · rename_i h _ _
    refine (checked_any _ (x - y) _ _ (fun _ => P1.out (Or.inl h)) (fun e => by cases e)).mono ?_
    rintro e w' ⟨rfl, hC⟩
    go_wp2
    go_ret2
    exact ⟨rfl, hC.cells1⟩
  · rename_i h _ _
    refine (checked_any _ (x - y) _ _ (fun e => P1.out ?_) (fun e => P2.out ?_)).mono ?_
    · simpa using e
    · simpa using e
    rintro e w' ⟨rfl, hC⟩
    go_wp2
    go_ret2
    exact ⟨rfl, hC.cells1⟩
theorem size_any (x : Int) (hx : In x) (w : World) : Calls Try.prog 122 #[.int .i64 x] w (fun e w' => e = .returned (.int .u64 (x.natAbs : Int)) ∧ w' = w) := by
  obtain ⟨x1, x2⟩ := hx
  by_cases h : x < 0
  · have e1 : IntKind.u64.wrap x = x + 18446744073709551616 := by rw [IntKind.wrap_u64]; omega
    have e2 : IntKind.u64.wrap (-(x + 18446744073709551616)) = (x.natAbs : Int) := by rw [IntKind.wrap_u64]; omega
    go_enter Try.func122, Try.ntmps122
    go_wp2
    go_ret
    exact ⟨rfl, rfl⟩
  · have e1 : IntKind.u64.wrap x = (x.natAbs : Int) := by rw [IntKind.wrap_u64]; omega
    go_enter Try.func122, Try.ntmps122
    go_wp2
    go_ret
    exact ⟨rfl, rfl⟩
theorem signed_neg (n : Nat) (w : World) (hn : n < 18446744073709551616) : Calls Try.prog 123 #[.int .u64 (n : Int), .bool true] w (GaveP w (fitN (-(n : Int))) (fitE (-(n : Int)))) := by
  obtain ⟨m, hm⟩ : ∃ m, IntKind.i64.wrap (IntKind.u64.wrap (-(n : Int))) = m := ⟨_, rfl⟩
  have hm' := hm
  rw [IntKind.wrap_i64, IntKind.wrap_u64] at hm'
  have P := Lib.hid (show (n ≤ 9223372036854775808 → In (-(n : Int)) ∧ m = -(n : Int)) ∧ (¬ n ≤ 9223372036854775808 → ¬ In (-(n : Int))) by unfold In; omega)
  clear hm'
  go_enter Try.func123, Try.ntmps123
  go_wp2_with fail
  refine (checked_any _ (-(n : Int)) _ _ (fun e => P.out.1 ?_) (fun e => P.out.2 ?_)).mono ?_
  · simp at e; omega
  · simp at e; omega
  rintro e w' ⟨rfl, hC⟩
  go_wp2
  go_ret2
  exact ⟨rfl, hC⟩
theorem signed_pos (n : Nat) (w : World) (hn : n < 18446744073709551616) : Calls Try.prog 123 #[.int .u64 (n : Int), .bool false] w (GaveP w (fitN (n : Int)) (fitE (n : Int))) := by
  obtain ⟨m, hm⟩ : ∃ m, IntKind.i64.wrap (n : Int) = m := ⟨_, rfl⟩
  have hm' := hm
  rw [IntKind.wrap_i64] at hm'
  have P := Lib.hid (show (n ≤ 9223372036854775807 → In (n : Int) ∧ m = (n : Int)) ∧ (¬ n ≤ 9223372036854775807 → ¬ In (n : Int)) by unfold In; omega)
  clear hm'
  go_enter Try.func123, Try.ntmps123
  go_wp2_with fail
  refine (checked_any _ (n : Int) _ _ (fun e => P.out.1 ?_) (fun e => P.out.2 ?_)).mono ?_
  · simp at e; omega
  · simp at e; omega
  rintro e w' ⟨rfl, hC⟩
  go_wp2
  go_ret2
  exact ⟨rfl, hC⟩
end Go.Proofs.Ytjmlekdgipinfaa
/- Numbers by digits of base 65536, in plain words. -/
namespace Go.Proofs.Ytjmlekdgipinfaa
open Go.RowKit

/-- The base, and its powers. -/
def pw (k : Nat) : Nat := 65536 ^ k
theorem pw_zero : pw 0 = 1 := rfl
theorem pw_succ (k : Nat) : pw (k + 1) = 65536 * pw k := by unfold pw; rw [Nat.pow_succ, Nat.mul_comm]
theorem pw_pos (k : Nat) : 0 < pw k := Nat.pow_pos (by decide)
theorem pw_add (i k : Nat) : pw (i + k) = pw i * pw k := Nat.pow_add ..
theorem pw_mono {i k : Nat} (h : i ≤ k) : pw i ≤ pw k := Nat.pow_le_pow_right (by decide) h
/-- The number of digits, the lowest first. -/
def vl : List Nat → Nat
  | [] => 0
  | d :: r => d + 65536 * vl r
def Dig (l : List Nat) : Prop := ∀ d ∈ l, d < 65536
theorem vl_append : ∀ a b : List Nat, vl (a ++ b) = vl a + pw a.length * vl b
  | [], b => by simp [vl, pw]
  | d :: a, b => by
    rw [List.cons_append, vl, vl_append a b, vl, List.length_cons, pw_succ, Nat.mul_add, Nat.mul_assoc]
    omega
theorem vl_lt : ∀ {l : List Nat}, Dig l → vl l < pw l.length
  | [], _ => by simp [vl, pw]
  | d :: r, h => by
    have h1 := vl_lt (l := r) (fun x hx => h x (List.mem_cons_of_mem _ hx))
    have h2 := h d List.mem_cons_self
    rw [vl, List.length_cons, pw_succ]
    omega
theorem vl_split (l : List Nat) (j : Nat) (h : j ≤ l.length) : vl l = vl (l.take j) + pw j * vl (l.drop j) := by
  have h1 := vl_append (l.take j) (l.drop j)
  rw [List.take_append_drop, List.length_take, Nat.min_eq_left h] at h1
  exact h1
theorem vl_take_succ (l : List Nat) (j : Nat) (h : j < l.length) : vl (l.take (j + 1)) = vl (l.take j) + pw j * l[j] := by
  rw [List.take_succ_eq_append_getElem h, vl_append, List.length_take, Nat.min_eq_left (Nat.le_of_lt h)]
  simp [vl]
theorem vl_snoc (l : List Nat) (x : Nat) : vl (l ++ [x]) = vl l + pw l.length * x := by rw [vl_append]; simp [vl]
theorem vl_zeros : ∀ l : List Nat, (∀ d ∈ l, d = 0) → vl l = 0
  | [], _ => rfl
  | d :: r, h => by
    rw [vl, vl_zeros r (fun x hx => h x (List.mem_cons_of_mem _ hx)), h d List.mem_cons_self]
theorem vl_set : ∀ (l : List Nat) (j x : Nat) (h : j < l.length), vl (l.set j x) + pw j * l[j] = vl l + pw j * x
  | d :: r, 0, x, h => by simp [vl, pw]; omega
  | d :: r, j + 1, x, h => by
    have ih := vl_set r j x (by simpa using h)
    simp only [List.set_cons_succ, vl, List.getElem_cons_succ, pw_succ]
    rw [Nat.mul_assoc, Nat.mul_assoc]
    omega
theorem dig_set {l : List Nat} (h : Dig l) (j x : Nat) (hx : x < 65536) : Dig (l.set j x) := by
  intro d hd
  rcases List.mem_or_eq_of_mem_set hd with e | e
  · exact h d e
  · omega
theorem dig_take {l : List Nat} (h : Dig l) (j : Nat) : Dig (l.take j) := fun d hd => h d (List.mem_of_mem_take hd)
theorem dig_snoc {l : List Nat} (h : Dig l) {x : Nat} (hx : x < 65536) : Dig (l ++ [x]) := by
  intro d hd
  rcases List.mem_append.1 hd with e | e
  · exact h d e
  · rw [List.mem_singleton.1 e]; exact hx
/-- A number's digits, without noughts at the end. -/
def dgF : Nat → Nat → List Nat
  | 0, _ => []
  | k + 1, n => if n = 0 then [] else n % 65536 :: dgF k (n / 65536)
def dg (n : Nat) : List Nat := dgF n n
theorem dgF_vl : ∀ (k n : Nat), n ≤ k → vl (dgF k n) = n
  | 0, n, h => by simp [dgF, vl]; omega
  | k + 1, n, h => by
    unfold dgF
    split
    · rename_i h0; simp [vl, h0]
    · rw [vl, dgF_vl k (n / 65536) (by omega)]; omega
theorem vl_dg (n : Nat) : vl (dg n) = n := dgF_vl n n (Nat.le_refl _)
theorem dgF_dig : ∀ (k n : Nat), Dig (dgF k n)
  | 0, n => by unfold dgF; intro d hd; cases hd
  | k + 1, n => by
    unfold dgF
    split
    · intro d hd; cases hd
    · intro d hd
      rcases List.mem_cons.1 hd with e | e
      · omega
      · exact dgF_dig k _ d e
theorem dg_dig (n : Nat) : Dig (dg n) := dgF_dig n n
/-- Nothing is 0 at the end. -/
def Canon (l : List Nat) : Prop := ∀ h : l ≠ [], l.getLast h ≠ 0
theorem dgF_canon : ∀ (k n : Nat), n ≤ k → Canon (dgF k n)
  | 0, n, h => by unfold dgF; intro h; exact absurd rfl h
  | k + 1, n, h => by
    unfold dgF
    split
    · intro h; exact absurd rfl h
    · rename_i h0
      intro hne
      have ih := dgF_canon k (n / 65536) (by omega)
      have iv := dgF_vl k (n / 65536) (by omega)
      by_cases e : dgF k (n / 65536) = []
      · rw [e] at iv
        simp only [vl] at iv
        simp only [e, List.getLast_singleton]
        omega
      · rw [List.getLast_cons e]; exact ih e
theorem dg_canon (n : Nat) : Canon (dg n) := dgF_canon n n (Nat.le_refl _)
theorem canon_pos : ∀ {l : List Nat}, Canon l → l ≠ [] → pw (l.length - 1) ≤ vl l
  | [], _, h => absurd rfl h
  | [d], hc, _ => by
    have := hc (by simp)
    simp at this
    simp [vl, pw]
    omega
  | d :: e :: r, hc, _ => by
    have ih := canon_pos (l := e :: r) (fun h => by have := hc (by simp); rw [List.getLast_cons h] at this; exact this) (by simp)
    rw [vl]
    simp only [List.length_cons, Nat.add_sub_cancel] at ih ⊢
    rw [pw_succ]
    omega
theorem canon_eq : ∀ {a b : List Nat}, Dig a → Dig b → Canon a → Canon b → vl a = vl b → a = b
  | [], [], _, _, _, _, _ => rfl
  | [], d :: r, _, _, _, cb, h => by
    have h1 := canon_pos cb (by simp)
    have h2 := pw_pos ((d :: r).length - 1)
    rw [← h] at h1
    simp only [vl] at h1
    omega
  | d :: r, [], _, _, ca, _, h => by
    have h1 := canon_pos ca (by simp)
    have h2 := pw_pos ((d :: r).length - 1)
    rw [h] at h1
    simp only [vl] at h1
    omega
  | d :: r, e :: s, da, db, ca, cb, h => by
    have h1 := da d List.mem_cons_self
    have h2 := db e List.mem_cons_self
    rw [vl, vl] at h
    have hd : d = e := by omega
    have hv : vl r = vl s := by omega
    have cr : Canon r := fun hh => by have := ca (by simp); rw [List.getLast_cons hh] at this; exact this
    have cs : Canon s := fun hh => by have := cb (by simp); rw [List.getLast_cons hh] at this; exact this
    rw [hd, canon_eq (fun x hx => da x (List.mem_cons_of_mem _ hx)) (fun x hx => db x (List.mem_cons_of_mem _ hx)) cr cs hv]
/-- Digits without noughts at the end are the number's. -/
theorem short_dg {l : List Nat} (h : Dig l) {m : Nat} (hm : m ≤ l.length) (hz : ∀ j (hj : j < l.length), m ≤ j → l[j] = 0) (hn : m = 0 ∨ ∃ h0 : m - 1 < l.length, l[m - 1] ≠ 0) : l.take m = dg (vl l) := by
  refine canon_eq (dig_take h m) (dg_dig _) ?_ (dg_canon _) ?_
  · intro hne
    have hm0 : m ≠ 0 := fun e => hne (by rw [e]; rfl)
    rcases hn with e | ⟨h0, h1⟩
    · exact absurd e hm0
    · rw [List.getLast_eq_getElem]
      have h3 : (l.take m)[(l.take m).length - 1]? = some l[m - 1] := by
        rw [List.length_take, Nat.min_eq_left hm, List.getElem?_take_of_lt (by omega), List.getElem?_eq_getElem h0]
      rw [List.getElem?_eq_getElem (by have := List.length_pos_iff.2 hne; omega)] at h3
      rw [Option.some.inj h3]
      exact h1
  · rw [vl_dg, vl_split l m hm, vl_zeros (l.drop m), Nat.mul_zero, Nat.add_zero]
    intro d hd
    obtain ⟨j, hj, rfl⟩ := List.getElem_of_mem hd
    rw [List.getElem_drop]
    rw [List.length_drop] at hj
    exact hz _ (by omega) (by omega)
theorem dg_len {n k : Nat} (h : n < pw k) : (dg n).length ≤ k := by
  by_cases e : dg n = []
  · rw [e]; exact Nat.zero_le _
  · have h1 := canon_pos (dg_canon n) e
    rw [vl_dg] at h1
    by_cases h2 : (dg n).length ≤ k
    · exact h2
    · have := pw_mono (show k ≤ (dg n).length - 1 by omega)
      omega
theorem dg_lt (n : Nat) : n < pw (dg n).length := by
  have := vl_lt (dg_dig n)
  rw [vl_dg] at this
  exact this
theorem dg_ge {n k : Nat} (h : k < (dg n).length) : pw k ≤ n := by
  have h1 := canon_pos (dg_canon n) (by intro e; rw [e] at h; simp at h)
  rw [vl_dg] at h1
  exact Nat.le_trans (pw_mono (by omega)) h1
/-- Digits that are the same above one that is less. -/
theorem vl_less {a b : List Nat} (ha : Dig a) (hl : a.length = b.length) {j : Nat} (hj : j < a.length) (hj2 : j < b.length) (hd : a.drop (j + 1) = b.drop (j + 1)) (h : a[j] < b[j]) : vl a < vl b := by
  rw [vl_split a (j + 1) (by omega), vl_split b (j + 1) (by omega), hd, vl_take_succ a j hj, vl_take_succ b j hj2]
  have h1 := vl_lt (dig_take ha j)
  rw [List.length_take, Nat.min_eq_left (by omega)] at h1
  have h2 : pw j * (a[j] + 1) ≤ pw j * b[j] := Nat.mul_le_mul_left _ h
  rw [Nat.mul_add, Nat.mul_one] at h2
  omega
/-- A signed number. -/
def sgn (b : Bool) (m : Nat) : Int := if b then -(m : Int) else m
theorem sgn_add (b : Bool) (m n : Nat) : sgn b (m + n) = sgn b m + sgn b n := by cases b <;> simp [sgn] <;> omega
theorem sgn_not (b : Bool) (m : Nat) : sgn (!b) m = -sgn b m := by cases b <;> simp [sgn]
theorem sgn_sub (b : Bool) {m n : Nat} (h : n ≤ m) : sgn b (m - n) = sgn b m + sgn (!b) n := by cases b <;> simp [sgn] <;> omega
theorem sgn_mul (a b : Bool) (m n : Nat) : sgn (a != b) (m * n) = sgn a m * sgn b n := by cases a <;> cases b <;> simp [sgn, Int.neg_mul, Int.mul_neg]
theorem sgn_abs (n : Int) : sgn (decide (n < 0)) n.natAbs = n := by
  unfold sgn
  by_cases h : n < 0
  · rw [decide_eq_true h]; simp; omega
  · rw [decide_eq_false h]; simp; omega
end Go.Proofs.Ytjmlekdgipinfaa
