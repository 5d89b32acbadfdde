/- fold: the chapter's first examples. -/
import Derived.Test.YtjmlekdgipinfaaFdH
namespace Go.Proofs.Ytjmlekdgipinfaa
open Go.RowKit Go.Shelf

def Tru16 (w : World) (e : Ending) (w' : World) : Prop := e = .returned (.bool true) ∧ Chg (fun _ => False) w w'
theorem chg_alloc' {w w' : World} {o : Obj} (h : Chg (fun _ => False) w w') : Chg (fun _ => False) w (w'.alloc o) := h.alloc o
theorem chg_drew' {w w' : World} (h : Chg (fun _ => False) w w') : Chg (fun _ => False) w w'.drew := h.drew
/-- The array A, in the box x. -/
def BoxA (w : World) (x : Nat) (A : Ar) : Prop := ∃ sa cs ae ce, (w.cell? ⟨x, 0, none⟩ = some (.int .i64 A.k) ∧ w.cell? ⟨x, 1, none⟩ = some (.slice sa A.s.length cs) ∧ w.cell? ⟨x, 2, none⟩ = some (.slice ae A.e.length ce)) ∧ Ara w (.agg #[.int .i64 A.k, .slice sa A.s.length cs, .slice ae A.e.length ce]) A
theorem BoxA.fr {w w' : World} {x : Nat} {A : Ar} (h : BoxA w x A) (hC : Chg (fun _ => False) w w') : BoxA w' x A := by
  obtain ⟨sa, cs, ae, ce, ⟨h0, h1, h2⟩, h⟩ := h
  exact ⟨sa, cs, ae, ce, ⟨hC.cell h0 id, hC.cell h1 id, hC.cell h2 id⟩, h.fr hC⟩
theorem BoxA.new {w : World} {A : Ar} {sa ae : Option Addr} {ns ne cs ce : Nat} (t : TypeId) (h : Ara w (.agg #[.int .i64 A.k, .slice sa ns cs, .slice ae ne ce]) A) : BoxA (w.alloc (.cells #[.int .i64 A.k, .slice sa ns cs, .slice ae ne ce] t)) w.heap.size A := by
  obtain ⟨vs, ve, e, h1, h2⟩ := id h
  injection e with e
  injection e with e
  injection e with _ e
  injection e with e3 e
  injection e with e4 _
  subst e3 e4
  obtain ⟨_, _, e5, _⟩ := h1.form
  obtain ⟨_, _, e6, _⟩ := h2.form
  injection e5 with _ e5 _
  injection e6 with _ e6 _
  subst e5 e6
  exact ⟨sa, cs, ae, ce, cell_two _ _ _ _ _, h.fr ((Chg.refl _ _).alloc _)⟩
def isB (A : Ar) (n : Int) (B : Ar) : Bool := n == 0 && sameA A B
theorem isB_iff {A B : Ar} {n : Int} : isB A n B = true ↔ n = 0 ∧ A = B := by
  simp [isB, sameA_iff]
set_option maxHeartbeats 400000 in
theorem is_any (u v : Value) (A B : Ar) (n : Int) (w : World) (hA : Ara w u A) (hB : Ara w v B) (hl : A.e.length ≤ 1000000) (hm : A.s.length ≤ 1000000) : Calls Try.prog 39 #[u, .int .i64 n, v] w (GaveBo w (isB A n B)) := by
  have hA' := hA
  have hB' := hB
  unfold isB
  have hsm := fun w' (h : Chg (fun _ => False) w w') => asame_any _ _ A B w' (hA'.fr h) (hB'.fr h) hl hm
  obtain ⟨k, s, e⟩ := A
  obtain ⟨l, t, f⟩ := B
  obtain ⟨vs, ve, hu, hs, he⟩ := hA
  obtain ⟨vt, vf, hv, ht, hf⟩ := hB
  simp only at hu hv hs he ht hf
  subst hu hv
  obtain ⟨sa, cs, rfl, _⟩ := hs.form
  obtain ⟨ae, ce, rfl, _⟩ := he.form
  obtain ⟨ta, ct, rfl, _⟩ := ht.form
  obtain ⟨fa, cf, rfl, _⟩ := hf.form
  have hC0 := ((Chg.refl (fun _ => False) w).alloc (.cells #[.int .i64 k, .slice sa s.length cs, .slice ae e.length ce] 25)).alloc (.cells #[.int .i64 l, .slice ta t.length ct, .slice fa f.length cf] 25)
  have h1 := hsm _ hC0
  generalize sameA ⟨k, s, e⟩ ⟨l, t, f⟩ = b at *
  have HC := Lib.hid hC0
  clear hs he ht hf hA' hB' hsm hC0
  by_cases hn : n = 0
  · subst hn
    go_enter Try.func39, Try.ntmps39
    go_wp2_with fail
    refine h1.mono ?_
    clear h1
    rintro e9 w1 ⟨rfl, hC1⟩
    go_wp2
    go_ret
    exact ⟨by simp, HC.out.tr hC1⟩
  · have hb : (n == 0) = false := beq_eq_false_iff_ne.2 hn
    clear hn h1
    go_enter Try.func39, Try.ntmps39
    go_wp2
    go_ret
    exact ⟨rfl, HC.out⟩
theorem vec_lit (W : World) (xs : List Int) (n : Nat) (hn : xs.length = n) (cs : Array Value) (hc : cs = (xs.map I).toArray) (hm : xs.length ≤ 1000000) : Calls Try.prog 26 #[.slice (some ⟨W.heap.size, 0, none⟩) n n] (W.alloc (.cells cs 2)) (GaveA (W.alloc (.cells cs 2)) ⟨1, [(n : Int)], xs⟩) := by
  have h := avector_any _ xs _ (own_lit W 2 xs n hn cs hc hm).ls hm
  rw [hn] at h
  exact h
theorem vec_litD (W : World) (xs : List Int) (n : Nat) (hn : xs.length = n) (cs : Array Value) (hc : cs = (xs.map I).toArray) (hm : xs.length ≤ 1000000) : Calls Try.prog 26 #[.slice (some ⟨W.heap.size, 0, none⟩) n n] ((W.alloc (.cells cs 2)).drew) (GaveA ((W.alloc (.cells cs 2)).drew) ⟨1, [(n : Int)], xs⟩) := by
  have h := avector_any _ xs _ ((own_lit W 2 xs n hn cs hc hm).ls.fr ((Chg.refl _ _).drew)) hm
  rw [hn] at h
  exact h

set_option maxHeartbeats 400000 in
theorem row16_any (f want : Int) (v : Value) (xs : List Int) (w : World) (hS : Ls w v xs) (hl : xs.length ≤ 1000000) (hI : ∀ x ∈ xs, In x) (h : rwP f xs = (want, 0)) : Calls Try.prog 43 #[.int .i64 f, .int .i64 want, v] w (Tru16 w) := by
  have h1 := row_any f v xs w hS hl hI
  rw [h] at h1
  obtain ⟨ao, c, rfl, _⟩ := hS.form
  clear hS h hI
  go_enter Try.func43, Try.ntmps43
  go_wp2_with fail
  refine h1.mono ?_
  clear h1
  rintro e9 w1 ⟨rfl, hC1⟩
  go_wp2
  go_ret
  exact ⟨rfl, hC1⟩
theorem alive_a : rwP 1 [-1, 1, 9223372036854775807] = (0, 7) := by rfl
theorem alive_b : scnA 2 ⟨1, [3], [1, 2, 3]⟩ = ⟨1, [3], [1, -1, 2]⟩ ∧ scnE 2 ⟨1, [3], [1, 2, 3]⟩ = 0 := by
  constructor <;> rfl
theorem alive_c : rwP 2 [1, 2, 3] = (2, 0) := by rfl
theorem alive_d : rwP 1 [9223372036854775807, 1, -1] = (9223372036854775807, 0) := by rfl
theorem In_all {l : List Int} (h : l.all (fun x => decide (-9223372036854775808 ≤ x) && decide (x ≤ 9223372036854775807)) = true) : ∀ x ∈ l, In x := by
  intro x hx
  have := List.all_eq_true.1 h x hx
  simp only [Bool.and_eq_true, decide_eq_true_eq] at this
  unfold In
  omega
end Go.Proofs.Ytjmlekdgipinfaa
