/- mold: the way that keeps spans. -/
import Derived.Test.YtceooipljhjpaaaMdK
import Derived.Test.YtceooipljhjpaaaMdD
namespace Go.Proofs.Ytceooipljhjpaaa
open Go.RowKit Go.Shelf

def spL (x : Spn) : List Value := [.int .i64 x.h, .int .i64 x.l, .int .i64 x.a]
def flatS (l : List Spn) : List Value := l.flatMap spL
theorem flatS_append (l m : List Spn) : flatS (l ++ m) = flatS l ++ flatS m := List.flatMap_append
theorem flatS_one (x : Spn) : flatS [x] = spL x := by simp [flatS]
theorem flatS_length (l : List Spn) : (flatS l).length = 3 * l.length := by
  induction l with
  | nil => rfl
  | cons x r ih => rw [flatS, List.flatMap_cons, List.length_append, List.length_cons]; rw [flatS] at ih; rw [ih]; simp [spL]; omega
structure SpAt (W : World) (b o : Nat) (x : Spn) : Prop where
  c0 : W.cell? ⟨b, o, none⟩ = some (.int .i64 x.h)
  c1 : W.cell? ⟨b, o + 1, none⟩ = some (.int .i64 x.l)
  c2 : W.cell? ⟨b, o + 2, none⟩ = some (.int .i64 x.a)
structure Spns (W : World) (v : Value) (l : List Spn) : Prop where
  form : ∃ ao c, v = .slice ao l.length c ∧ (ao = none → l = [] ∧ c = 0)
  cells : ∀ j (h : j < l.length), ∃ b o c, v = .slice (some ⟨b, o, none⟩) l.length c ∧ SpAt W b (o + j * 3) l[j]
theorem SpAt.chg {S : Nat → Prop} {w w' : World} {b o : Nat} {x : Spn} (h : SpAt w b o x) (hC : Chg S w w') (hb : ¬ S b) : SpAt w' b o x :=
  ⟨hC.cell h.c0 hb, hC.cell h.c1 hb, hC.cell h.c2 hb⟩
theorem Spns.chg {S : Nat → Prop} {w w' : World} {v : Value} {l : List Spn} (h : Spns w v l) (hC : Chg S w w') (hn : ∀ k, v.ownBlock = some k → ¬ S k) : Spns w' v l :=
  ⟨h.form, fun j hj => by obtain ⟨b, o, c, e, hx⟩ := h.cells j hj; exact ⟨b, o, c, e, hx.chg hC (hn b (by rw [e]; rfl))⟩⟩
theorem Spns.fr {w w' : World} {v : Value} {l : List Spn} (h : Spns w v l) (hC : Chg (fun _ => False) w w') : Spns w' v l := h.chg hC (fun _ _ => id)
theorem flatS_at : ∀ (l : List Spn) (j i : Nat) (h : j < l.length), i < 3 → (flatS l)[j * 3 + i]? = (spL l[j])[i]?
  | x :: r, 0, i, _, hi => by
    rw [flatS, List.flatMap_cons, List.getElem?_append_left (by simp [spL]; omega)]
    simp
  | x :: r, j + 1, i, h, hi => by
    rw [flatS, List.flatMap_cons, List.getElem?_append_right (by simp [spL]; omega)]
    have := flatS_at r j i (by simpa using h) hi
    rw [flatS] at this
    rw [show (j + 1) * 3 + i - (spL x).length = j * 3 + i by simp [spL]; omega, this]
    simp
theorem Spns.of_owns {w : World} {base : Nat} {v : Value} {l : List Spn} (h : w.ownsRow base 117 3 v l.length (flatS l)) : Spns w v l := by
  rcases h.2 with ⟨rfl, h0⟩ | ⟨g, cap, cur, rfl, _⟩
  · have : l = [] := List.eq_nil_of_length_eq_zero h0
    subst this
    exact ⟨⟨none, 0, rfl, fun _ => ⟨rfl, rfl⟩⟩, fun j hj => (by simp at hj)⟩
  · refine ⟨⟨_, _, rfl, fun e => (by cases e)⟩, fun j hj => ⟨g, 0, cap, rfl, ?_⟩⟩
    have q (i : Nat) (u : Value) (hi : i < 3) (hu : (spL l[j])[i]? = some u) : w.cell? ⟨g, 0 + j * 3 + i, none⟩ = some u := by
      have hc := h.cells (g := g) rfl (j * 3 + i) u ((flatS_at l j i hj hi).trans hu)
      rw [Addr.add_lit] at hc
      rw [← hc]
      congr 2
      omega
    exact ⟨q 0 _ (by omega) rfl, q 1 _ (by omega) rfl, q 2 _ (by omega) rfl⟩
/-- From which one, and which element: the last axis first. -/
def wiR : List Spn → Int → Int → Int → Int × Int
  | [], _, p, _ => (0, p)
  | x :: r, n, p, b => if n % x.l + x.a < 0 ∨ x.h ≤ n % x.l + x.a then (-1, 0) else wiR r (n / x.l) (p + (n % x.l + x.a) * b) (b * x.h)
def wiP (l : List Spn) (n : Int) : Int × Int := wiR l.reverse n 0 1
def SpOk (x : Spn) : Prop := (0 < x.l ∧ x.l ≤ 4096) ∧ (0 ≤ x.h ∧ x.h ≤ 4096) ∧ (-4096 ≤ x.a ∧ x.a ≤ 4096)
theorem take_rev {l : List Spn} {k : Nat} (h : k < l.length) : (l.take (k + 1)).reverse = l[k] :: (l.take k).reverse := by
  rw [List.take_succ_eq_append_getElem h, List.reverse_append]
  rfl
set_option maxRecDepth 100000 in
set_option maxHeartbeats 2000000 in
theorem wi1_any (b : Nat) (v : Value) (l : List Spn) (i : Nat) (w : World) (hb : w.cell? ⟨b, 0, none⟩ = some v) (hS : Spns w v l) (hl : l.length ≤ 4) (hok : ∀ x ∈ l, SpOk x) (hi : (i : Int) ≤ 4096) : Calls Try.prog 98 (#[.int .i64 i] ++ #[.pointer (some ⟨b, 0, none⟩)]) w (GaveII w (wiP l i).1 (wiP l i).2) := by
  obtain ⟨ao, c, rfl, _⟩ := hS.form
  obtain ⟨n, hn⟩ : ∃ n, l.length = n := ⟨_, rfl⟩
  have hw1 : IntKind.i64.wrap ((n : Int) - 1) = (n : Int) - 1 := IntWalk.i64_in _ (by omega)
  rw [hn] at hb
  have HN := Lib.hid hn
  have HS := Lib.hid hS
  have HL := Lib.hid hl
  clear hS hl hn
  go_enter Try.func98, Try.ntmps98
  go_wp2
  go_step3
  go_wp2
  go_step3
  go_wp2
  go_loopw [0, 5, 6, 7, 8] (fun vn vp vb vo vi wr => ∃ (r : Nat) (N P B : Int), r ≤ n ∧ vo = .int .i64 0 ∧ vn = .int .i64 N ∧ vp = .int .i64 P ∧ vb = .int .i64 B ∧ vi = .int .i64 ((r : Int) - 1) ∧ wiR (l.take r).reverse N P B = wiP l i ∧ (0 ≤ N ∧ N ≤ 4096) ∧ (0 ≤ B ∧ B ≤ 4096 ^ (n - r)) ∧ (0 ≤ P ∧ P ≤ ((n - r : Nat) : Int) * 4096 ^ 4) ∧ Chg (fun _ => False) w wr) (fun _ _ _ _ vi _ => (intOf vi + 1).toNat)
  case atStart => exact ⟨n, i, 0, 1, Nat.le_refl _, rfl, rfl, rfl, rfl, rfl, by rw [← HN.out, List.take_length]; rfl, ⟨by omega, hi⟩, ⟨by decide, by rw [Nat.sub_self]; decide⟩, ⟨by decide, by rw [Nat.sub_self]; decide⟩, Chg.refl _ _⟩
  case round =>
    obtain ⟨r, N, P, B, hr, rfl, rfl, rfl, rfl, rfl, hrel, ⟨hN0, hN1⟩, ⟨hB0, hB1⟩, ⟨hP0, hP1⟩, hC⟩ := hrel
    cases r with
    | zero =>
      have hrl : wiP l i = (0, P) := by rw [← hrel]; rfl
      have HR := Lib.hid hrl
      clear hrel hrl hw1
      go_wp2
      go_ret2
      rw [HR.out]
      exact ⟨rfl, hC⟩
    | succ k =>
      have hk : k < l.length := by have := HN.out; omega
      have hkn : (k : Int) < (n : Int) := by omega
      obtain ⟨bb, o, cc, e1, hx⟩ := (HS.out.fr hC).cells k hk
      rw [HN.out] at e1
      injection e1 with e1 e2 e3
      clear e2 e3
      subst e1
      rw [take_rev hk] at hrel
      obtain ⟨⟨l0, l1⟩, ⟨h0, h1⟩, ⟨a0, a1⟩⟩ := hok _ (List.getElem_mem hk)
      have hbw := hC.cell hb id
      obtain ⟨c0, c1, c2⟩ := hx
      obtain ⟨X, hX⟩ : ∃ X, l[k] = X := ⟨_, rfl⟩
      rw [hX] at hrel l0 l1 h0 h1 a0 a1 c0 c1 c2
      obtain ⟨hh, ll, aa⟩ := X
      simp only at l0 l1 h0 h1 a0 a1 c0 c1 c2
      simp only [wiR] at hrel
      obtain ⟨m, hm⟩ : ∃ m, N % ll = m := ⟨_, rfl⟩
      obtain ⟨q, hq⟩ : ∃ q, N / ll = q := ⟨_, rfl⟩
      rw [hm, hq] at hrel
      have hm0 : 0 ≤ m := by rw [← hm]; exact Int.emod_nonneg _ (by omega)
      have hm1 : m < ll := by rw [← hm]; exact Int.emod_lt_of_pos _ l0
      have hq0 : 0 ≤ q := by rw [← hq]; exact Int.ediv_nonneg hN0 (by omega)
      have hq1 : q ≤ 4096 := by rw [← hq]; exact Int.le_trans (Int.ediv_le_self _ hN0) hN1
      have e1 : Int.tdiv N ll = q := by rw [Int.tdiv_eq_ediv_of_nonneg hN0]; exact hq
      have e2 : Int.tmod N ll = m := by rw [Int.tmod_eq_emod_of_nonneg hN0]; exact hm
      have hl0 : ¬ ll = 0 := by omega
      have w1 : IntKind.i64.wrap m = m := IntWalk.i64_in _ (by omega)
      have w2 : IntKind.i64.wrap q = q := IntWalk.i64_in _ (by omega)
      have w3 : IntKind.i64.wrap (m + aa) = m + aa := IntWalk.i64_in _ (by omega)
      have hk0 : (0 : Int) ≤ (k : Int) := by omega
      have hik : (((k + 1 : Nat) : Int)) - 1 = (k : Int) := by omega
      rw [hik]
      have HX := Lib.hid hX
      have HC := Lib.hid hC
      have HQ := Lib.hid (And.intro hm hq)
      clear hm hq hX hC hik hw1
      go_wp2
      go_quiet (fail)
      by_cases hneg : m + aa < 0
      · rw [if_pos (Or.inl hneg)] at hrel
        have HR := Lib.hid hrel.symm
        have d1 : decide (m + aa < 0) = true := by simp [hneg]
        clear hrel
        go_wp2
        go_ret2
        rw [HR.out]
        exact ⟨rfl, by first | exact HC.out.drewN _ | exact HC.out.drew⟩
      by_cases hbig : hh ≤ m + aa
      · rw [if_pos (Or.inr hbig)] at hrel
        have HR := Lib.hid hrel.symm
        have d1 : decide (m + aa < 0) = false := by simp [hneg]
        have d2 : decide (hh ≤ m + aa) = true := by simp [hbig]
        clear hrel
        go_wp2
        go_ret2
        rw [HR.out]
        exact ⟨rfl, by first | exact HC.out.drewN _ | exact HC.out.drew⟩
      rw [if_neg (by omega)] at hrel
      have d1 : decide (m + aa < 0) = false := by simp [hneg]
      have d2 : decide (hh ≤ m + aa) = false := by simp [hbig]
      have HR := Lib.hid hrel
      have hn4 : n ≤ 4 := by have := HN.out; have := HL.out; omega
      obtain ⟨f, hf, hf3⟩ : ∃ f, n - (k + 1) = f ∧ f ≤ 3 := ⟨_, rfl, by omega⟩
      have hfk : n - k = f + 1 := by omega
      rw [hf] at hB1 hP1
      have hB4 : B ≤ 68719476736 := by
        have := Nat.pow_le_pow_right (n := 4096) (by decide) hf3
        have e2 : ∀ m : Nat, (4096 : Int) ^ m = ((4096 ^ m : Nat) : Int) := fun m => by rw [Int.natCast_pow]; rfl
        rw [e2] at hB1
        omega
      have hm2 : m + aa ≤ 4096 := by omega
      have hT0 : 0 ≤ (m + aa) * B := Int.mul_nonneg (by omega) hB0
      have hT1 : (m + aa) * B ≤ 281474976710656 := by
        have : (m + aa) * B ≤ 4096 * 68719476736 := Int.mul_le_mul hm2 hB4 hB0 (by decide)
        omega
      have hU0 : 0 ≤ B * hh := Int.mul_nonneg hB0 h0
      have hU1 : B * hh ≤ 281474976710656 := by
        have : B * hh ≤ 68719476736 * 4096 := Int.mul_le_mul hB4 h1 h0 (by decide)
        omega
      have hU2 : B * hh ≤ 4096 ^ (f + 1) := by
        rw [Int.pow_succ]
        exact Int.mul_le_mul hB1 h1 h0 (Int.le_trans hB0 hB1)
      have hP2 : P + (m + aa) * B ≤ ((f + 1 : Nat) : Int) * 4096 ^ 4 := by
        have h4 : (4096 : Int) ^ 4 = 281474976710656 := by decide
        rw [h4] at hP1 ⊢
        omega
      have hP3 : P + (m + aa) * B ≤ 4 * 281474976710656 := by
        have h4 : (4096 : Int) ^ 4 = 281474976710656 := by decide
        rw [h4] at hP2
        omega
      have v1 : wrap64 ((m + aa) * B) = (m + aa) * B := mwrap (by omega)
      have v2 : wrap64 (P + (m + aa) * B) = P + (m + aa) * B := mwrap (by omega)
      have v3 : wrap64 (B * hh) = B * hh := mwrap (by omega)
      have v4 : wrap64 ((k : Int) - 1) = (k : Int) - 1 := mwrap (by omega)
      have HF := Lib.hid (And.intro hU2 hP2)
      clear hrel hU2 hP2 hB1 hP1
      go_wp2
      go_roundw
      case rel =>
        exact ⟨k, q, P + (m + aa) * B, B * hh, by omega, rfl, rfl, rfl, rfl, rfl, HR.out, ⟨hq0, hq1⟩, ⟨hU0, by rw [hfk]; exact HF.out.1⟩, ⟨by omega, by rw [hfk]; exact HF.out.2⟩, by first | exact HC.out.drewN _ | exact HC.out.drew⟩
      case measure =>
        show ((k : Int) - 1 + 1).toNat < ((k : Int) + 1).toNat
        omega
end Go.Proofs.Ytceooipljhjpaaa
