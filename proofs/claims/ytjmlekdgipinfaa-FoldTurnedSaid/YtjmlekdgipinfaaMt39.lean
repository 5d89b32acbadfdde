/- fold: the chapter's first examples. -/
import Derived.Test.YtjmlekdgipinfaaMt38
namespace Go.Proofs.Ytjmlekdgipinfaa
open Go.RowKit Go.Shelf

def Tru16 (w : World) (e : Ending) (w' : World) : Prop := e = .returned (.bool true) ∧ Chg (fun _ => False) w w'
theorem chg_alloc' {w w' : World} {o : Obj} (h : Chg (fun _ => False) w w') : Chg (fun _ => False) w (w'.alloc o) := h.alloc o
theorem chg_drew' {w w' : World} (h : Chg (fun _ => False) w w') : Chg (fun _ => False) w w'.drew := h.drew
/-- The array A, in the box x. -/
def BoxA (w : World) (x : Nat) (A : Ar) : Prop := ∃ sa cs ae ce, (w.cell? ⟨x, 0, none⟩ = some (.int .i64 A.k) ∧ w.cell? ⟨x, 1, none⟩ = some (.slice sa A.s.length cs) ∧ w.cell? ⟨x, 2, none⟩ = some (.slice ae A.e.length ce)) ∧ Ara w (.agg #[.int .i64 A.k, .slice sa A.s.length cs, .slice ae A.e.length ce]) A
theorem BoxA.fr {w w' : World} {x : Nat} {A : Ar} (h : BoxA w x A) (hC : Chg (fun _ => False) w w') : BoxA w' x A := by
  obtain ⟨sa, cs, ae, ce, ⟨h0, h1, h2⟩, h⟩ := h
  exact ⟨sa, cs, ae, ce, ⟨hC.cell h0 id, hC.cell h1 id, hC.cell h2 id⟩, h.fr hC⟩
theorem BoxA.new {w : World} {A : Ar} {sa ae : Option Addr} {ns ne cs ce : Nat} (t : TypeId) (h : Ara w (.agg #[.int .i64 A.k, .slice sa ns cs, .slice ae ne ce]) A) : BoxA (w.alloc (.cells #[.int .i64 A.k, .slice sa ns cs, .slice ae ne ce] t)) w.heap.size A := by
  obtain ⟨vs, ve, e, h1, h2⟩ := id h
  injection e with e
  injection e with e
  injection e with _ e
  injection e with e3 e
  injection e with e4 _
  subst e3 e4
  obtain ⟨_, _, e5, _⟩ := h1.form
  obtain ⟨_, _, e6, _⟩ := h2.form
  injection e5 with _ e5 _
  injection e6 with _ e6 _
  subst e5 e6
  exact ⟨sa, cs, ae, ce, cell_two _ _ _ _ _, h.fr ((Chg.refl _ _).alloc _)⟩
def isB (A : Ar) (n : Int) (B : Ar) : Bool := n == 0 && sameA A B
theorem isB_iff {A B : Ar} {n : Int} : isB A n B = true ↔ n = 0 ∧ A = B := by
  simp [isB, sameA_iff]
set_option maxHeartbeats 400000 in
theorem is_any (u v : Value) (A B : Ar) (n : Int) (w : World) (hA : Ara w u A) (hB : Ara w v B) (hl : A.e.length ≤ 1000000) (hm : A.s.length ≤ 1000000) : Calls Try.prog 39 #[u, .int .i64 n, v] w (GaveBo w (isB A n B)) := by
  have hA' := hA
  have hB' := hB
  unfold isB
  have hsm := fun w' (h : Chg (fun _ => False) w w') => asame_any _ _ A B w' (hA'.fr h) (hB'.fr h) hl hm
  obtain ⟨k, s, e⟩ := A
  obtain ⟨l, t, f⟩ := B
  obtain ⟨vs, ve, hu, hs, he⟩ := hA
  obtain ⟨vt, vf, hv, ht, hf⟩ := hB
  simp only at hu hv hs he ht hf
  subst hu hv
  obtain ⟨sa, cs, rfl, _⟩ := hs.form
  obtain ⟨ae, ce, rfl, _⟩ := he.form
  obtain ⟨ta, ct, rfl, _⟩ := ht.form
  obtain ⟨fa, cf, rfl, _⟩ := hf.form
  have hC0 := ((Chg.refl (fun _ => False) w).alloc (.cells #[.int .i64 k, .slice sa s.length cs, .slice ae e.length ce] 25)).alloc (.cells #[.int .i64 l, .slice ta t.length ct, .slice fa f.length cf] 25)
  have h1 := hsm _ hC0
  generalize sameA ⟨k, s, e⟩ ⟨l, t, f⟩ = b at *
  have HC := Lib.hid hC0
  clear hs he ht hf hA' hB' hsm hC0
  by_cases hn : n = 0
  · subst hn
    go_enter Try.func39, Try.ntmps39
    go_wp2_with fail
    refine h1.mono ?_
    clear h1
    rintro e9 w1 ⟨rfl, hC1⟩
    go_wp2
    go_ret
    exact ⟨by simp, HC.out.tr hC1⟩
  · have hb : (n == 0) = false := beq_eq_false_iff_ne.2 hn
    clear hn h1
    go_enter Try.func39, Try.ntmps39
    go_wp2
    go_ret
    exact ⟨rfl, HC.out⟩
theorem vec_lit (W : World) (xs : List Int) (n : Nat) (hn : xs.length = n) (cs : Array Value) (hc : cs = (xs.map I).toArray) (hm : xs.length ≤ 1000000) : Calls Try.prog 26 #[.slice (some ⟨W.heap.size, 0, none⟩) n n] (W.alloc (.cells cs 2)) (GaveA (W.alloc (.cells cs 2)) ⟨1, [(n : Int)], xs⟩) := by
  have h := avector_any _ xs _ (own_lit W 2 xs n hn cs hc hm).ls hm
  rw [hn] at h
  exact h
theorem vec_litD (W : World) (xs : List Int) (n : Nat) (hn : xs.length = n) (cs : Array Value) (hc : cs = (xs.map I).toArray) (hm : xs.length ≤ 1000000) : Calls Try.prog 26 #[.slice (some ⟨W.heap.size, 0, none⟩) n n] ((W.alloc (.cells cs 2)).drew) (GaveA ((W.alloc (.cells cs 2)).drew) ⟨1, [(n : Int)], xs⟩) := by
  have h := avector_any _ xs _ ((own_lit W 2 xs n hn cs hc hm).ls.fr ((Chg.refl _ _).drew)) hm
  rw [hn] at h
  exact h

set_option maxHeartbeats 400000 in
theorem row16_any (f want : Int) (v : Value) (xs : List Int) (w : World) (hS : Ls w v xs) (hl : xs.length ≤ 1000000) (hI : ∀ x ∈ xs, In x) (h : rwP f xs = (want, 0)) : Calls Try.prog 43 #[.int .i64 f, .int .i64 want, v] w (Tru16 w) := by
  have h1 := row_any f v xs w hS hl hI
  rw [h] at h1
  obtain ⟨ao, c, rfl, _⟩ := hS.form
  clear hS h hI
  go_enter Try.func43, Try.ntmps43
  go_wp2_with fail
  refine h1.mono ?_
  clear h1
  rintro e9 w1 ⟨rfl, hC1⟩
  go_wp2
  go_ret
  exact ⟨rfl, hC1⟩
theorem alive_a : rwP 1 [-1, 1, 9223372036854775807] = (0, 7) := by rfl
theorem alive_b : scnA 2 ⟨1, [3], [1, 2, 3]⟩ = ⟨1, [3], [1, -1, 2]⟩ ∧ scnE 2 ⟨1, [3], [1, 2, 3]⟩ = 0 := by
  constructor <;> rfl
theorem alive_c : rwP 2 [1, 2, 3] = (2, 0) := by rfl
theorem alive_d : rwP 1 [9223372036854775807, 1, -1] = (9223372036854775807, 0) := by rfl
theorem In_all {l : List Int} (h : l.all (fun x => decide (-9223372036854775808 ≤ x) && decide (x ≤ 9223372036854775807)) = true) : ∀ x ∈ l, In x := by
  intro x hx
  have := List.all_eq_true.1 h x hx
  simp only [Bool.and_eq_true, decide_eq_true_eq] at this
  unfold In
  omega
end Go.Proofs.Ytjmlekdgipinfaa
/- fold: the chapter's first examples, alive. -/
namespace Go.Proofs.Ytjmlekdgipinfaa
open Go.RowKit Go.Shelf

theorem row_lit (W : World) (f want : Int) (xs : List Int) (n : Nat) (hn : xs.length = n) (cs : Array Value) (hc : cs = (xs.map I).toArray) (hm : xs.length ≤ 1000000) (hI : ∀ x ∈ xs, In x) (h : rwP f xs = (want, 0)) : Calls Try.prog 43 #[.int .i64 f, .int .i64 want, .slice (some ⟨W.heap.size, 0, none⟩) n n] (W.alloc (.cells cs 2)) (Tru16 (W.alloc (.cells cs 2))) :=
  row16_any f want _ xs _ (own_lit W 2 xs n hn cs hc hm).ls hm hI h
theorem row_litD (W : World) (f want : Int) (xs : List Int) (n : Nat) (hn : xs.length = n) (cs : Array Value) (hc : cs = (xs.map I).toArray) (hm : xs.length ≤ 1000000) (hI : ∀ x ∈ xs, In x) (h : rwP f xs = (want, 0)) : Calls Try.prog 43 #[.int .i64 f, .int .i64 want, .slice (some ⟨W.heap.size, 0, none⟩) n n] ((W.alloc (.cells cs 2)).drew) (Tru16 ((W.alloc (.cells cs 2)).drew)) :=
  row16_any f want _ xs _ ((own_lit W 2 xs n hn cs hc hm).ls.fr ((Chg.refl _ _).drew)) hm hI h
set_option maxRecDepth 100000 in
set_option maxHeartbeats 2000000 in
theorem alive_any (w : World) : Calls Try.prog 11 #[] w (Tru16 w) := by
  have i1 : ∀ x ∈ [-1, 1, 9223372036854775807], In x := In_all (by decide)
  have i2 : ∀ x ∈ [1, 2, 3], In x := In_all (by decide)
  have i3 : ∀ x ∈ [9223372036854775807, 1, -1], In x := In_all (by decide)
  have h0 := row_any 1 _ [-1, 1, 9223372036854775807] _ (own_lit w 2 [-1, 1, 9223372036854775807] 3 rfl #[.int .i64 (-1), .int .i64 1, .int .i64 9223372036854775807] rfl (by decide)).ls (by decide) i1
  rw [alive_a] at h0
  have hC0 := (Chg.refl (fun _ => False) w).alloc (.cells #[.int .i64 (-1), .int .i64 1, .int .i64 9223372036854775807] 2)
  have HI2 := Lib.hid i2
  have HI3 := Lib.hid i3
  clear i1 i2 i3
  go_enter Try.func11, Try.ntmps11
  go_wp2_with fail
  refine h0.mono ?_
  clear h0
  rintro e9 w1 ⟨rfl, hC1⟩
  have h1 := vec_lit w1 [1, 2, 3] 3 rfl #[.int .i64 1, .int .i64 2, .int .i64 3] rfl (by decide)
  replace hC0 := (hC0.tr hC1).alloc (.cells #[.int .i64 1, .int .i64 2, .int .i64 3] 2)
  clear hC1
  go_wp2_with fail
  refine h1.mono ?_
  clear h1
  rintro e9 w2 ⟨v2, rfl, ho2, hC2⟩
  have h2 := scan_any 2 _ ⟨1, [3], [1, 2, 3]⟩ _ ho2.ara (by decide) HI2.out
  rw [alive_b.1, alive_b.2] at h2
  obtain ⟨a1, c1, a2, c2, rfl, _, _⟩ := ara_new ho2
  replace hC0 := hC0.tr hC2
  clear hC2 ho2
  go_wp2_with fail
  refine h2.mono ?_
  clear h2
  rintro e9 w3 ⟨v3, rfl, ho3, hC3⟩
  obtain ⟨a3, c3, a4, c4, rfl, _, _⟩ := ara_new ho3
  simp only [List.length_cons, List.length_nil, Nat.reduceAdd] at ho3 ⊢
  have hb := BoxA.new (A := ⟨1, [3], [1, -1, 2]⟩) 25 ho3.ara
  replace hC0 := hC0.tr (hC3.alloc (.cells #[.int .i64 1, .slice a3 1 c3, .slice a4 3 c4] 25))
  clear hC3 ho3
  obtain ⟨x1, hx1⟩ : ∃ x1, w3.heap.size = x1 := ⟨_, rfl⟩
  rw [hx1] at hb
  go_wp2_with fail
  clear hx1
  generalize w3.alloc (.cells #[.int .i64 1, .slice a3 1 c3, .slice a4 3 c4] 25) = w9 at *
  obtain ⟨sa, cs, sb, cb, ⟨y0, y1, y2⟩, hb⟩ := hb
  simp only [List.length_cons, List.length_nil, Nat.reduceAdd] at y0 y1 y2 hb
  have KP := Lib.hid (show ∀ w', Chg (fun _ => False) w9 w' → (Chg (fun _ => False) w9 w' ∧ w'.cell? ⟨x1, 0, none⟩ = some (.int .i64 1) ∧ w'.cell? ⟨x1, 1, none⟩ = some (.slice sa 1 cs) ∧ w'.cell? ⟨x1, 2, none⟩ = some (.slice sb 3 cb)) from fun w' h => ⟨h, h.cell y0 id, h.cell y1 id, h.cell y2 id⟩)
  have H1 := Lib.hid (show ∀ w' v, Chg (fun _ => False) w9 w' → Ara w' v ⟨1, [3], [1, -1, 2]⟩ → Calls Try.prog 39 #[.agg #[.int .i64 1, .slice sa 1 cs, .slice sb 3 cb], .int .i64 0, v] w' (GaveBo w' true) from fun w' v h hv => by have h2 := is_any _ _ ⟨1, [3], [1, -1, 2]⟩ ⟨1, [3], [1, -1, 2]⟩ 0 w' (hb.fr h) hv (by simp) (by simp); rw [isB_iff.2 ⟨rfl, rfl⟩] at h2; exact h2)
  have HV1 := Lib.hid (fun W => vec_litD W [1, -1, 2] 3 rfl #[.int .i64 1, .int .i64 (-1), .int .i64 2] rfl (by decide))
  have HV2 := Lib.hid (fun W => vec_lit W [1, -1, 2] 3 rfl #[.int .i64 1, .int .i64 (-1), .int .i64 2] rfl (by decide))
  have HR1 := Lib.hid (fun W => row_litD W 2 2 [1, 2, 3] 3 rfl #[.int .i64 1, .int .i64 2, .int .i64 3] rfl (by decide) HI2.out alive_c)
  have HR2 := Lib.hid (fun W => row_litD W 1 9223372036854775807 [9223372036854775807, 1, -1] 3 rfl #[.int .i64 9223372036854775807, .int .i64 1, .int .i64 (-1)] rfl (by decide) HI3.out alive_d)
  have HR3 := Lib.hid (fun W => row_lit W 2 2 [1, 2, 3] 3 rfl #[.int .i64 1, .int .i64 2, .int .i64 3] rfl (by decide) HI2.out alive_c)
  have HR4 := Lib.hid (fun W => row_lit W 1 9223372036854775807 [9223372036854775807, 1, -1] 3 rfl #[.int .i64 9223372036854775807, .int .i64 1, .int .i64 (-1)] rfl (by decide) HI3.out alive_d)
  have HC := Lib.hid hC0
  clear hC0 y0 y1 y2 hb
  go_region_held3 (fun w' => (Chg (fun _ => False) w9 w' ∧ w'.cell? ⟨x1, 0, none⟩ = some (.int .i64 1) ∧ w'.cell? ⟨x1, 1, none⟩ = some (.slice sa 1 cs) ∧ w'.cell? ⟨x1, 2, none⟩ = some (.slice sb 3 cb))) ((refine KP.out _ ?_; repeat (first | (with_reducible exact Chg.refl _ _) | (with_reducible assumption) | (with_reducible refine chg_drew' ?_) | (with_reducible refine chg_alloc' ?_) | (with_reducible refine Chg.tr ?_ hq4) | (with_reducible refine Chg.tr ?_ hq3) | (with_reducible refine Chg.tr ?_ hq2) | (with_reducible refine Chg.tr ?_ hq1)))) (first
      | (go_at_call 43
         (first | (with_reducible refine (HR1.out _).mono ?_) | (with_reducible refine (HR3.out _).mono ?_))
         rintro e9 q1 ⟨rfl, hq1⟩)
      | (go_at_call 43
         (first | (with_reducible refine (HR2.out _).mono ?_) | (with_reducible refine (HR4.out _).mono ?_))
         rintro e9 q2 ⟨rfl, hq2⟩)
      | (go_at_call 26
         (first | (with_reducible refine (HV1.out _).mono ?_) | (with_reducible refine (HV2.out _).mono ?_))
         rintro e9 q3 ⟨u3, rfl, hu3, hq3⟩
         have hu3a := Lib.hid hu3.ara)
      | (go_at_call 39
         with_reducible refine (H1.out _ _ ?_ ?_).mono ?_
         · repeat (first | (with_reducible exact Chg.refl _ _) | (with_reducible assumption) | (with_reducible refine chg_drew' ?_) | (with_reducible refine chg_alloc' ?_) | (with_reducible refine Chg.tr ?_ hq3) | (with_reducible refine Chg.tr ?_ hq2) | (with_reducible refine Chg.tr ?_ hq1))
         · first | exact hu3a.out | exact hu3a.out.fr ((Chg.refl _ _).drew)
         rintro e9 q4 ⟨rfl, hq4⟩))
  all_goals
    rename_i hHd
    go_wp2
    go_ret
    exact ⟨rfl, HC.out.tr hHd.1⟩
end Go.Proofs.Ytjmlekdgipinfaa
