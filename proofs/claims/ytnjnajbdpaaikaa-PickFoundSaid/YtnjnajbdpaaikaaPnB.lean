/- The pick statements' helpers: great, is, at; the chapter's first examples. -/
import Derived.Test.YtnjnajbdpaaikaaPkO
import Derived.Test.YtnjnajbdpaaikaaArD
import Derived.Test.YtnjnajbdpaaikaaArT
import Derived.Test.YtnjnajbdpaaikaaPlH
import Derived.Test.YtnjnajbdpaaikaaPkH
import Derived.Deep.Cut
namespace Go.Proofs.Ytnjnajbdpaaikaa
section
open Go.RowKit Go.Shelf
def SaidB (w : World) (b : Bool) (e : Ending) (w' : World) : Prop := e = .returned (.bool b) ∧ w' = w
def True_ (w : World) (e : Ending) (w' : World) : Prop := e = .returned (.bool true) ∧ Chg (fun _ => False) w w'
def grt15 (A : Ar) : Bool := decide (1500 < A.e.length) || decide (100 < A.s.length)
theorem grt15_not {A : Ar} (h : grt15 A = false) : A.e.length ≤ 1500 ∧ A.s.length ≤ 100 := by
  unfold grt15 at h
  simp only [Bool.or_eq_false_iff, decide_eq_false_iff_not] at h
  omega
set_option maxRecDepth 100000 in
set_option maxHeartbeats 1000000 in
theorem great15_one (sa ea : Option Addr) (cs ce b : Nat) (A : Ar) (w : World) (h : w.cell? ⟨b, 1, none⟩ = some (.slice sa A.s.length cs) ∧ w.cell? ⟨b, 2, none⟩ = some (.slice ea A.e.length ce)) (g : Bool) (hg : grt15 A = g) : Calls Try.prog 14 #[.slice (some ⟨b, 0, none⟩) 1 1] w (SaidB w g) := by
  obtain ⟨y1, y2⟩ := h
  obtain ⟨nA, hnA⟩ : ∃ n, A.s.length = n := ⟨_, rfl⟩
  obtain ⟨lA, hlA⟩ : ∃ n, A.e.length = n := ⟨_, rfl⟩
  unfold grt15 at hg
  rw [hnA, hlA] at hg
  rw [hnA] at y1
  rw [hlA] at y2
  obtain ⟨p1, hp1⟩ : ∃ p, decide (1500 < lA) = p := ⟨_, rfl⟩
  obtain ⟨p2, hp2⟩ : ∃ p, decide (100 < nA) = p := ⟨_, rfl⟩
  have q1 : decide ((1500 : Int) < (lA : Int)) = p1 := by rw [← hp1]; exact decide_eq_decide.2 (by omega)
  have q2 : decide ((100 : Int) < (nA : Int)) = p2 := by rw [← hp2]; exact decide_eq_decide.2 (by omega)
  rw [hp1, hp2] at hg
  have HG := Lib.hid hg
  clear hnA hlA hg hp1 hp2
  go_enter Try.func14, Try.ntmps14
  go_wp2_with fail
  go_loopw [6] (fun vi wr => wr = w ∧ ((vi = .int .i64 0) ∨ (vi = .int .i64 1 ∧ p1 = false ∧ p2 = false))) (fun vi _ => 1 - (intOf vi).toNat)
  case atStart => exact ⟨rfl, .inl rfl⟩
  case round =>
    obtain ⟨rfl, h⟩ := hrel
    rcases h with rfl | ⟨rfl, rfl, rfl⟩
    · cases p1 with
      | true =>
        go_wp2
        go_ret
        exact ⟨by rw [← HG.out]; rfl, by first | rfl | trivial⟩
      | false =>
        cases p2 with
        | true =>
          go_wp2
          go_ret
          exact ⟨by rw [← HG.out]; rfl, by first | rfl | trivial⟩
        | false =>
          go_wp2
          go_roundw
          case rel => exact ⟨by first | rfl | trivial, .inr ⟨rfl, by first | rfl | trivial, by first | rfl | trivial⟩⟩
          case measure => decide
    · go_wp2
      go_ret
      exact ⟨by rw [← HG.out]; rfl, by first | rfl | trivial⟩
set_option maxRecDepth 100000 in
set_option maxHeartbeats 1000000 in
theorem great15_two (sa ea ta fa : Option Addr) (cs ce ct cf b : Nat) (A B : Ar) (w : World) (h : (w.cell? ⟨b, 1, none⟩ = some (.slice sa A.s.length cs) ∧ w.cell? ⟨b, 2, none⟩ = some (.slice ea A.e.length ce)) ∧ w.cell? ⟨b, 4, none⟩ = some (.slice ta B.s.length ct) ∧ w.cell? ⟨b, 5, none⟩ = some (.slice fa B.e.length cf)) (g : Bool) (hg : (grt15 A || grt15 B) = g) : Calls Try.prog 14 #[.slice (some ⟨b, 0, none⟩) 2 2] w (SaidB w g) := by
  obtain ⟨⟨y1, y2⟩, z1, z2⟩ := h
  obtain ⟨nA, hnA⟩ : ∃ n, A.s.length = n := ⟨_, rfl⟩
  obtain ⟨lA, hlA⟩ : ∃ n, A.e.length = n := ⟨_, rfl⟩
  obtain ⟨nB, hnB⟩ : ∃ n, B.s.length = n := ⟨_, rfl⟩
  obtain ⟨lB, hlB⟩ : ∃ n, B.e.length = n := ⟨_, rfl⟩
  unfold grt15 at hg
  rw [hnA, hlA, hnB, hlB] at hg
  rw [hnA] at y1
  rw [hlA] at y2
  rw [hnB] at z1
  rw [hlB] at z2
  obtain ⟨p1, hp1⟩ : ∃ p, decide (1500 < lA) = p := ⟨_, rfl⟩
  obtain ⟨p2, hp2⟩ : ∃ p, decide (100 < nA) = p := ⟨_, rfl⟩
  obtain ⟨p3, hp3⟩ : ∃ p, decide (1500 < lB) = p := ⟨_, rfl⟩
  obtain ⟨p4, hp4⟩ : ∃ p, decide (100 < nB) = p := ⟨_, rfl⟩
  have q1 : decide ((1500 : Int) < (lA : Int)) = p1 := by rw [← hp1]; exact decide_eq_decide.2 (by omega)
  have q2 : decide ((100 : Int) < (nA : Int)) = p2 := by rw [← hp2]; exact decide_eq_decide.2 (by omega)
  have q3 : decide ((1500 : Int) < (lB : Int)) = p3 := by rw [← hp3]; exact decide_eq_decide.2 (by omega)
  have q4 : decide ((100 : Int) < (nB : Int)) = p4 := by rw [← hp4]; exact decide_eq_decide.2 (by omega)
  rw [hp1, hp2, hp3, hp4] at hg
  have HG := Lib.hid hg
  clear hnA hlA hnB hlB hg hp1 hp2 hp3 hp4
  go_enter Try.func14, Try.ntmps14
  go_wp2_with fail
  go_loopw [6] (fun vi wr => wr = w ∧ ((vi = .int .i64 0) ∨ (vi = .int .i64 1 ∧ p1 = false ∧ p2 = false) ∨ (vi = .int .i64 2 ∧ p1 = false ∧ p2 = false ∧ p3 = false ∧ p4 = false))) (fun vi _ => 2 - (intOf vi).toNat)
  case atStart => exact ⟨rfl, .inl rfl⟩
  case round =>
    obtain ⟨rfl, h⟩ := hrel
    rcases h with rfl | ⟨rfl, rfl, rfl⟩ | ⟨rfl, rfl, rfl, rfl, rfl⟩
    · cases p1 with
      | true =>
        go_wp2
        go_ret
        exact ⟨by rw [← HG.out]; rfl, by first | rfl | trivial⟩
      | false =>
        cases p2 with
        | true =>
          go_wp2
          go_ret
          exact ⟨by rw [← HG.out]; rfl, by first | rfl | trivial⟩
        | false =>
          go_wp2
          go_roundw
          case rel => exact ⟨by first | rfl | trivial, .inr (.inl ⟨rfl, by first | rfl | trivial, by first | rfl | trivial⟩)⟩
          case measure => decide
    · cases p3 with
      | true =>
        go_wp2
        go_ret
        exact ⟨by rw [← HG.out]; rfl, by first | rfl | trivial⟩
      | false =>
        cases p4 with
        | true =>
          go_wp2
          go_ret
          exact ⟨by rw [← HG.out]; rfl, by first | rfl | trivial⟩
        | false =>
          go_wp2
          go_roundw
          case rel => exact ⟨by first | rfl | trivial, .inr (.inr ⟨rfl, by first | rfl | trivial, by first | rfl | trivial, by first | rfl | trivial, by first | rfl | trivial⟩)⟩
          case measure => decide
    · go_wp2
      go_ret
      exact ⟨by rw [← HG.out]; rfl, by first | rfl | trivial⟩
def isB (A : Ar) (n : Int) (B : Ar) : Bool := n == 0 && sameA A B
theorem isB_iff {A B : Ar} {n : Int} : isB A n B = true ↔ n = 0 ∧ A = B := by
  simp [isB, sameA_iff]
set_option maxHeartbeats 400000 in
theorem is_any (u v : Value) (A B : Ar) (n : Int) (w : World) (hA : Ara w u A) (hB : Ara w v B) (hl : A.e.length ≤ 1000000) (hm : A.s.length ≤ 1000000) : Calls Try.prog 24 #[u, .int .i64 n, v] w (GaveBo w (isB A n B)) := by
  have hA' := hA
  have hB' := hB
  unfold isB
  have hsm := fun w' (h : Chg (fun _ => False) w w') => asame_any _ _ A B w' (hA'.fr h) (hB'.fr h) hl hm
  obtain ⟨k, s, e⟩ := A
  obtain ⟨l, t, f⟩ := B
  obtain ⟨vs, ve, hu, hs, he⟩ := hA
  obtain ⟨vt, vf, hv, ht, hf⟩ := hB
  simp only at hu hv hs he ht hf
  subst hu hv
  obtain ⟨sa, cs, rfl, _⟩ := hs.form
  obtain ⟨ae, ce, rfl, _⟩ := he.form
  obtain ⟨ta, ct, rfl, _⟩ := ht.form
  obtain ⟨fa, cf, rfl, _⟩ := hf.form
  have hC0 := ((Chg.refl (fun _ => False) w).alloc (.cells #[.int .i64 k, .slice sa s.length cs, .slice ae e.length ce] 25)).alloc (.cells #[.int .i64 l, .slice ta t.length ct, .slice fa f.length cf] 25)
  have h1 := hsm _ hC0
  generalize sameA ⟨k, s, e⟩ ⟨l, t, f⟩ = b at *
  have HC := Lib.hid hC0
  clear hs he ht hf hA' hB' hsm hC0
  by_cases hn : n = 0
  · subst hn
    go_enter Try.func24, Try.ntmps24
    go_wp2_with fail
    refine h1.mono ?_
    clear h1
    rintro e9 w1 ⟨rfl, hC1⟩
    go_wp2
    go_ret
    exact ⟨by simp, HC.out.tr hC1⟩
  · have hb : (n == 0) = false := beq_eq_false_iff_ne.2 hn
    clear hn h1
    go_enter Try.func24, Try.ntmps24
    go_wp2
    go_ret
    exact ⟨rfl, HC.out⟩
/-- An axis by places, as a value. -/
def GaveAt (w : World) (k : Int) (vs ve : Value) (e : Ending) (w' : World) : Prop := e = .returned (.agg #[.bool false, .int .i64 k, vs, ve]) ∧ Chg (fun _ => False) w w'
set_option maxHeartbeats 400000 in
theorem at_any (k : Int) (sa ea : Option Addr) (ns ne cs ce : Nat) (w : World) : Calls Try.prog 21 #[.agg #[.int .i64 k, .slice sa ns cs, .slice ea ne ce]] w (GaveAt w k (.slice sa ns cs) (.slice ea ne ce)) := by
  have HC := Lib.hid (((Chg.refl (fun _ => False) w).alloc (.cells #[.int .i64 k, .slice sa ns cs, .slice ea ne ce] 25)).alloc (.cells #[.bool false, .int .i64 k, .slice sa ns cs, .slice ea ne ce] 39))
  go_enter Try.func21, Try.ntmps21
  go_wp2
  simp [bodyPost, results, Try.results21, go_sem]
  exact ⟨rfl, HC.out⟩
/-- The literal slice of one axis by places. -/
theorem axs_one (W : World) (vs ve : Value) (A : Ar) (hA : Ara W (.agg #[.int .i64 A.k, vs, ve]) A) : Axs (W.alloc (.cells #[.bool false, .int .i64 A.k, vs, ve] 39)) (.slice (some ⟨W.heap.size, 0, none⟩) 1 1) [⟨false, A⟩] := by
  obtain ⟨vs', ve', e, h1, h2⟩ := hA
  injection e with e
  injection e with e
  injection e with _ e
  injection e with e1 e
  injection e with e2 _
  subst e1 e2
  refine ⟨⟨_, 1, rfl, Nat.le_refl _, by unfold maxLen; omega, by simp⟩, fun j hj => ⟨W.heap.size, 0, 1, rfl, ?_⟩⟩
  have hj0 : j = 0 := by simp at hj; omega
  subst hj0
  refine ⟨vs, ve, ⟨?_, ?_, ?_, ?_⟩, h1.fr ((Chg.refl _ _).alloc _), h2.fr ((Chg.refl _ _).alloc _)⟩
  · exact new_cell W #[.bool false, .int .i64 A.k, vs, ve] 39 (i := 0) rfl
  · exact new_cell W #[.bool false, .int .i64 A.k, vs, ve] 39 (i := 1) rfl
  · exact new_cell W #[.bool false, .int .i64 A.k, vs, ve] 39 (i := 2) rfl
  · exact new_cell W #[.bool false, .int .i64 A.k, vs, ve] 39 (i := 3) rfl
end
section
open Go.RowKit Go.Shelf
/-- The array A, in the box x. -/
def BoxA (w : World) (x : Nat) (A : Ar) : Prop := ∃ sa cs ae ce, (w.cell? ⟨x, 0, none⟩ = some (.int .i64 A.k) ∧ w.cell? ⟨x, 1, none⟩ = some (.slice sa A.s.length cs) ∧ w.cell? ⟨x, 2, none⟩ = some (.slice ae A.e.length ce)) ∧ Ara w (.agg #[.int .i64 A.k, .slice sa A.s.length cs, .slice ae A.e.length ce]) A
theorem BoxA.fr {w w' : World} {x : Nat} {A : Ar} (h : BoxA w x A) (hC : Chg (fun _ => False) w w') : BoxA w' x A := by
  obtain ⟨sa, cs, ae, ce, ⟨h0, h1, h2⟩, h⟩ := h
  exact ⟨sa, cs, ae, ce, ⟨hC.cell h0 id, hC.cell h1 id, hC.cell h2 id⟩, h.fr hC⟩
theorem BoxA.new {w : World} {A : Ar} {sa ae : Option Addr} {ns ne cs ce : Nat} (t : TypeId) (h : Ara w (.agg #[.int .i64 A.k, .slice sa ns cs, .slice ae ne ce]) A) : BoxA (w.alloc (.cells #[.int .i64 A.k, .slice sa ns cs, .slice ae ne ce] t)) w.heap.size A := by
  obtain ⟨vs, ve, e, h1, h2⟩ := id h
  injection e with e
  injection e with e
  injection e with _ e
  injection e with e3 e
  injection e with e4 _
  subst e3 e4
  obtain ⟨_, _, e5, _⟩ := h1.form
  obtain ⟨_, _, e6, _⟩ := h2.form
  injection e5 with _ e5 _
  injection e6 with _ e6 _
  subst e5 e6
  exact ⟨sa, cs, ae, ce, cell_two _ _ _ _ _, h.fr ((Chg.refl _ _).alloc _)⟩
theorem BoxA.set {w : World} {x base : Nat} {A : Ar} {v0 v1 v2 : Value} {sa ae : Option Addr} {ns ne cs ce : Nat} (hb : Bx w x v0 v1 v2) (h : OwnA w base (.agg #[.int .i64 A.k, .slice sa ns cs, .slice ae ne ce]) A) (hx : x < base) : BoxA (((w.setCell ⟨x, 0, none⟩ (.int .i64 A.k)).setCell ⟨x, 1, none⟩ (.slice sa ns cs)).setCell ⟨x, 2, none⟩ (.slice ae ne ce)) x A := by
  obtain ⟨z0, z1, z2, _, _, _⟩ := hb
  obtain ⟨vs, ve, e, h1, h2⟩ := id h
  injection e with e
  injection e with e
  injection e with _ e
  injection e with e3 e
  injection e with e4 _
  subst e3 e4
  obtain ⟨_, _, e5, _⟩ := h1.ls.form
  obtain ⟨_, _, e6, _⟩ := h2.ls.form
  injection e5 with _ e5 _
  injection e6 with _ e6 _
  subst e5 e6
  obtain ⟨⟨g0, g1⟩, g2⟩ := set3_cells (.int .i64 A.k) (.slice sa A.s.length cs) (.slice ae A.e.length ce) z0 z1 z2
  exact ⟨sa, cs, ae, ce, ⟨g0, g1, g2⟩, _, _, rfl, (own_set3 h1 hx _ _ _).ls, (own_set3 h2 hx _ _ _).ls⟩
theorem vec_lit (W : World) (xs : List Int) (n : Nat) (hn : xs.length = n) (cs : Array Value) (hc : cs = (xs.map I).toArray) (hm : xs.length ≤ 1000000) : Calls Try.prog 20 #[.slice (some ⟨W.heap.size, 0, none⟩) n n] (W.alloc (.cells cs 2)) (GaveA (W.alloc (.cells cs 2)) ⟨1, [(n : Int)], xs⟩) := by
  have h := avector_any _ xs _ (own_lit W 2 xs n hn cs hc hm).ls hm
  rw [hn] at h
  exact h
theorem vec_litD (W : World) (xs : List Int) (n : Nat) (hn : xs.length = n) (cs : Array Value) (hc : cs = (xs.map I).toArray) (hm : xs.length ≤ 1000000) : Calls Try.prog 20 #[.slice (some ⟨W.heap.size, 0, none⟩) n n] ((W.alloc (.cells cs 2)).drew) (GaveA ((W.alloc (.cells cs 2)).drew) ⟨1, [(n : Int)], xs⟩) := by
  have h := avector_any _ xs _ ((own_lit W 2 xs n hn cs hc hm).ls.fr ((Chg.refl _ _).drew)) hm
  rw [hn] at h
  exact h
theorem chg_alloc' {w w' : World} {o : Obj} (h : Chg (fun _ => False) w w') : Chg (fun _ => False) w (w'.alloc o) := h.alloc o
theorem Bx.at1 (w : World) (o : Obj) (t : TypeId) : Bx ((w.alloc o).alloc (.cells #[.int .i64 0, .slice none 0 0, .slice none 0 0] t)) (w.heap.size + 1) (.int .i64 0) (.slice none 0 0) (.slice none 0 0) := by
  have h := Bx.new (w.alloc o) (.int .i64 0) (.slice none 0 0) (.slice none 0 0) t
  rw [World.size_alloc] at h
  exact h
theorem okS_eq {K : Int → Int} {a b : List Int} (h1 : OkS K 0 a) (h2 : OkS K 0 b) (h : a.length = b.length) : a = b := srt_eq (h1.1.trans (by rw [h]; exact h2.1.symm)) h1.2 h2.2
theorem gr_known {w w' : World} {e : Ending} {A : Ar} {down : Bool} {Z : List Int} (h : GaveGr w A down e w') (h0 : vecE A = 0) (hZ : OkS (keyK A.e down) 0 Z) (hl : Z.length = A.e.length) : GaveAE w ⟨1, A.s, Z⟩ 0 e w' := by
  obtain ⟨Y, hY, h⟩ := h
  obtain ⟨y1, y2⟩ := hY h0
  rw [okS_eq y1 hZ (by omega), if_pos h0, h0] at h
  exact h
/-- Axes of one array by places, in a literal that may lie behind a new box. -/
theorem axs_at {W V : World} {b : Nat} {vs ve : Value} {A : Ar} (hA : Ara W (.agg #[.int .i64 A.k, vs, ve]) A) (hb : W.heap.size = b) (hC : Chg (fun _ => False) (W.alloc (.cells #[.bool false, .int .i64 A.k, vs, ve] 39)) V) : Axs V (.slice (some ⟨b, 0, none⟩) 1 1) [⟨false, A⟩] := by
  subst hb
  exact (axs_one W vs ve A hA).fr hC
theorem lit_at {w : World} {b c n k : Nat} {xs : List Int} (h : Ls w (.slice (some ⟨b, 0, none⟩) n k) xs) (e : b = c) : Ls w (.slice (some ⟨c, 0, none⟩) n k) xs := by subst e; exact h
theorem al_ix : pgA (ixW [3] [⟨false, ⟨1, [2], [3, 1]⟩⟩]) ⟨1, [3], [5, 6, 7]⟩ = ⟨1, [2], [7, 5]⟩ ∧ pgN (ixW [3] [⟨false, ⟨1, [2], [3, 1]⟩⟩]) ⟨1, [3], [5, 6, 7]⟩ = 0 := by
  constructor <;> rfl
theorem al_cp : pgA (cpW ⟨1, [3], [1, 0, 2]⟩ [3]) ⟨1, [3], [7, 8, 9]⟩ = ⟨1, [3], [7, 9, 9]⟩ ∧ pgN (cpW ⟨1, [3], [1, 0, 2]⟩ [3]) ⟨1, [3], [7, 8, 9]⟩ = 0 := by
  constructor <;> rfl
theorem al_gr : OkS (keyK [3, 1, 3, 2] false) 0 [2, 4, 1, 3] := by
  refine ⟨by decide, ?_⟩
  simp [Srt, Lo, keyK]
theorem al_cp' (w' : World) (u v : Value) (h1 : Ara w' u ⟨1, [3], [1, 0, 2]⟩) (h2 : Ara w' v ⟨1, [3], [7, 8, 9]⟩) : Calls Try.prog 25 #[u, v] w' (GaveAE w' ⟨1, [3], [7, 9, 9]⟩ 0) := by
  have h := compress_any u v ⟨1, [3], [1, 0, 2]⟩ ⟨1, [3], [7, 8, 9]⟩ w' h1 h2 (by simp) (by simp)
  rw [al_cp.1, al_cp.2] at h
  exact h
theorem al_gr' (w' : World) (u : Value) (h1 : Ara w' u ⟨1, [4], [3, 1, 3, 2]⟩) : Calls Try.prog 28 #[u, .bool false] w' (GaveAE w' ⟨1, [4], [2, 4, 1, 3]⟩ 0) :=
  (grade_any u ⟨1, [4], [3, 1, 3, 2]⟩ false w' h1 (by simp)).mono fun _ _ h => gr_known h rfl al_gr rfl
theorem al_ix' (w' : World) (u v : Value) (h1 : Ara w' u ⟨1, [3], [5, 6, 7]⟩) (h2 : Axs w' v [⟨false, ⟨1, [2], [3, 1]⟩⟩]) : Calls Try.prog 16 #[u, v] w' (GaveAE w' ⟨1, [2], [7, 5]⟩ 0) := by
  have h := index_any u v ⟨1, [3], [5, 6, 7]⟩ [⟨false, ⟨1, [2], [3, 1]⟩⟩] w' h1 h2 (by simp) (by simp) (by simp)
  rw [al_ix.1, al_ix.2] at h
  exact h
set_option maxRecDepth 100000 in
set_option maxHeartbeats 2000000 in
theorem alive_any (w : World) : Calls Try.prog 29 #[] w (True_ w) := by
  have h0 : Calls Try.prog 20 _ _ (GaveA _ ⟨1, [3], [5, 6, 7]⟩) := vec_lit w [5, 6, 7] 3 rfl #[.int .i64 5, .int .i64 6, .int .i64 7] rfl (by decide)
  have hC0 := (Chg.refl (fun _ => False) w).alloc (.cells #[.int .i64 5, .int .i64 6, .int .i64 7] 2)
  go_enter Try.func29, Try.ntmps29
  go_wp2_with fail
  refine h0.mono ?_
  clear h0
  rintro e9 w1 ⟨v1, rfl, ho1, hC1⟩
  obtain ⟨a1, c1, a2, c2, rfl, _, _⟩ := ara_new ho1
  simp only [List.length_cons, List.length_nil, Nat.reduceAdd] at ho1 ⊢
  have hb1 := BoxA.new (A := ⟨1, [3], [5, 6, 7]⟩) 25 ho1.ara
  replace hC0 := hC0.tr (hC1.alloc (.cells #[.int .i64 1, .slice a1 1 c1, .slice a2 3 c2] 25))
  clear ho1 hC1
  obtain ⟨x1, hx1⟩ : ∃ x1, w1.heap.size = x1 := ⟨_, rfl⟩
  rw [hx1] at hb1
  go_wp2_with fail
  clear hx1
  generalize w1.alloc (.cells #[.int .i64 1, .slice a1 1 c1, .slice a2 3 c2] 25) = w3 at *
  obtain ⟨sa, cs, sb, cb, ⟨y0, y1, y2⟩, hb1⟩ := hb1
  simp only [List.length_cons, List.length_nil, Nat.reduceAdd] at y0 y1 y2 hb1
  go_cut [2, 3] (fun s2 s3 wx => ∃ x, s2 = .pointer (some ⟨x, 0, none⟩) ∧ s3 = .int .i64 0 ∧ BoxA wx x ⟨1, [2], [7, 5]⟩ ∧ Chg (fun _ => False) w3 wx)
  case first =>
    have KP := Lib.hid (show ∀ w', Chg (fun _ => False) w3 w' → (Chg (fun _ => False) w3 w' ∧ w'.cell? ⟨x1, 0, none⟩ = some (.int .i64 1) ∧ w'.cell? ⟨x1, 1, none⟩ = some (.slice sa 1 cs) ∧ w'.cell? ⟨x1, 2, none⟩ = some (.slice sb 3 cb)) from fun w' h => ⟨h, h.cell y0 id, h.cell y1 id, h.cell y2 id⟩)
    have HA := Lib.hid (show ∀ w', Chg (fun _ => False) w3 w' → Ara w' (.agg #[.int .i64 1, .slice sa 1 cs, .slice sb 3 cb]) ⟨1, [3], [5, 6, 7]⟩ from fun w' h => hb1.fr h)
    have HR := Lib.hid al_ix'
    have HV1 := Lib.hid (fun W v (h : Ls W v [3, 1]) => (avector_any v [3, 1] W h (by simp) : Calls Try.prog 20 #[v] W (GaveA W ⟨1, [2], [3, 1]⟩)))
    go_region_held3 (fun w' => Chg (fun _ => False) w3 w' ∧ w'.cell? ⟨x1, 0, none⟩ = some (.int .i64 1) ∧ w'.cell? ⟨x1, 1, none⟩ = some (.slice sa 1 cs) ∧ w'.cell? ⟨x1, 2, none⟩ = some (.slice sb 3 cb)) ((refine KP.out _ ?_; (
      repeat (first | (with_reducible exact Chg.refl _ _) | (with_reducible assumption) | (with_reducible refine chg_drew' ?_) | (with_reducible refine chg_alloc' ?_) | (with_reducible refine Chg.tr ?_ hC7) | (with_reducible refine Chg.tr ?_ hC6) | (with_reducible refine Chg.tr ?_ hC5) | (refine Chg.setCell ?_ (.inr (by simp only []; omega)) _))
      ))) (first
      | (go_at_call 20
         with_reducible refine (HV1.out _ _ ?_).mono ?_
         ·
           first
           | exact (own_lit w3 2 [3, 1] 2 rfl #[.int .i64 3, .int .i64 1] rfl (by simp)).ls
           | exact (own_lit w3 2 [3, 1] 2 rfl #[.int .i64 3, .int .i64 1] rfl (by simp)).ls.fr ((Chg.refl _ _).drew)
           | exact (own_lit w3 2 [3, 1] 2 rfl #[.int .i64 3, .int .i64 1] rfl (by simp)).ls.fr ((Chg.refl _ _).alloc (.cells #[.int .i64 0, .slice none 0 0, .slice none 0 0] 25))
           | exact (own_lit w3 2 [3, 1] 2 rfl #[.int .i64 3, .int .i64 1] rfl (by simp)).ls.fr (((Chg.refl _ _).alloc (.cells #[.int .i64 0, .slice none 0 0, .slice none 0 0] 25)).drew)
           | exact (lit_at (own_lit (w3.alloc (.cells #[.int .i64 0, .slice none 0 0, .slice none 0 0] 25)) 2 [3, 1] 2 rfl #[.int .i64 3, .int .i64 1] rfl (by simp)).ls (by simp))
           | exact (lit_at (own_lit (w3.alloc (.cells #[.int .i64 0, .slice none 0 0, .slice none 0 0] 25)) 2 [3, 1] 2 rfl #[.int .i64 3, .int .i64 1] rfl (by simp)).ls (by simp)).fr ((Chg.refl _ _).drew)
         rintro e9 w5 ⟨v5, rfl, ho5, hC5⟩
         obtain ⟨a5, c5, a6, c6, rfl, _, _⟩ := ara_new ho5
         simp only [List.length_cons, List.length_nil, Nat.reduceAdd] at ho5 ⊢
         have hs5 : w3.heap.size ≤ w5.heap.size := (by have := hC5.size; (try simp at this); omega)
         (first
           | (have hBc := hBno; have hB5 := hBc.fr hC5)
           | (have hBc := hBno.fr ((Chg.refl (fun _ => False) _).drew); have hB5 := hBc.fr hC5)
           | (have hBc := hBno.fr ((Chg.refl (fun _ => False) _).alloc (.cells #[.int .i64 3, .int .i64 1] 2)); have hB5 := hBc.fr hC5)
           | (have hBc := hBno.fr (((Chg.refl (fun _ => False) _).alloc (.cells #[.int .i64 3, .int .i64 1] 2)).drew); have hB5 := hBc.fr hC5)
           | (have hBc := Bx.new w3 (.int .i64 0) (.slice none 0 0) (.slice none 0 0) 25; have hB5 := hBc.fr hC5)
           | (have hBc := (Bx.new w3 (.int .i64 0) (.slice none 0 0) (.slice none 0 0) 25).fr ((Chg.refl (fun _ => False) _).drew); have hB5 := hBc.fr hC5)
           | (have hBc := (Bx.new w3 (.int .i64 0) (.slice none 0 0) (.slice none 0 0) 25).fr ((Chg.refl (fun _ => False) _).alloc (.cells #[.int .i64 3, .int .i64 1] 2)); have hB5 := hBc.fr hC5)
           | (have hBc := (Bx.new w3 (.int .i64 0) (.slice none 0 0) (.slice none 0 0) 25).fr (((Chg.refl (fun _ => False) _).alloc (.cells #[.int .i64 3, .int .i64 1] 2)).drew); have hB5 := hBc.fr hC5)
           | (have hBc := Bx.at1 w3 (.cells #[.int .i64 3, .int .i64 1] 2) 25; have hB5 := hBc.fr hC5)
           | (have hBc := (Bx.at1 w3 (.cells #[.int .i64 3, .int .i64 1] 2) 25).fr ((Chg.refl (fun _ => False) _).drew); have hB5 := hBc.fr hC5)
           | skip)
         )
      | (go_at_call 21
         (with_reducible refine (at_any _ _ _ _ _ _ _ _).mono ?_)
         rintro e9 w6 ⟨rfl, hC6⟩
         have hA6 : Ara w6 _ ⟨1, [2], [3, 1]⟩ := ho5.ara.fr (by
           repeat (first | (with_reducible exact Chg.refl _ _) | (with_reducible assumption) | (with_reducible refine chg_drew' ?_) | (with_reducible refine chg_alloc' ?_) | (with_reducible refine Chg.tr ?_ hC7) | (with_reducible refine Chg.tr ?_ hC6) | (with_reducible refine Chg.tr ?_ hC5) | (refine Chg.setCell ?_ (.inr (by simp only []; omega)) _))
           )
         have hs6 : w5.heap.size ≤ w6.heap.size := (by have := hC6.size; (try simp at this); omega)
         (first
           | (have hBc := hB5; have hB6 := hBc.fr hC6)
           | (have hBc := hB5.fr ((Chg.refl (fun _ => False) _).drew); have hB6 := hBc.fr hC6)
           | (have hBc := hB5.fr ((Chg.refl (fun _ => False) _).alloc (.cells #[] 2)); have hB6 := hBc.fr hC6)
           | (have hBc := hB5.fr (((Chg.refl (fun _ => False) _).alloc (.cells #[] 2)).drew); have hB6 := hBc.fr hC6)
           | (have hBc := Bx.new w5 (.int .i64 0) (.slice none 0 0) (.slice none 0 0) 25; have hB6 := hBc.fr hC6)
           | (have hBc := (Bx.new w5 (.int .i64 0) (.slice none 0 0) (.slice none 0 0) 25).fr ((Chg.refl (fun _ => False) _).drew); have hB6 := hBc.fr hC6)
           | (have hBc := (Bx.new w5 (.int .i64 0) (.slice none 0 0) (.slice none 0 0) 25).fr ((Chg.refl (fun _ => False) _).alloc (.cells #[] 2)); have hB6 := hBc.fr hC6)
           | (have hBc := (Bx.new w5 (.int .i64 0) (.slice none 0 0) (.slice none 0 0) 25).fr (((Chg.refl (fun _ => False) _).alloc (.cells #[] 2)).drew); have hB6 := hBc.fr hC6)
           | (have hBc := Bx.at1 w5 (.cells #[] 2) 25; have hB6 := hBc.fr hC6)
           | (have hBc := (Bx.at1 w5 (.cells #[] 2) 25).fr ((Chg.refl (fun _ => False) _).drew); have hB6 := hBc.fr hC6)
           | skip)
         )
      | (go_at_call 16
         with_reducible refine (HR.out _ _ _ ?_ ?_).mono ?_
         · refine HA.out _ ?_
           repeat (first | (with_reducible exact Chg.refl _ _) | (with_reducible assumption) | (with_reducible refine chg_drew' ?_) | (with_reducible refine chg_alloc' ?_) | (with_reducible refine Chg.tr ?_ hC7) | (with_reducible refine Chg.tr ?_ hC6) | (with_reducible refine Chg.tr ?_ hC5) | (refine Chg.setCell ?_ (.inr (by simp only []; omega)) _))
         ·
           first
           | exact axs_at hA6 rfl (by repeat (first | (with_reducible exact Chg.refl _ _) | (with_reducible assumption) | (with_reducible refine chg_drew' ?_) | (with_reducible refine chg_alloc' ?_) | (with_reducible refine Chg.tr ?_ hC7) | (with_reducible refine Chg.tr ?_ hC6) | (with_reducible refine Chg.tr ?_ hC5) | (refine Chg.setCell ?_ (.inr (by simp only []; omega)) _)))
           | exact axs_at (hA6.fr ((Chg.refl _ _).alloc (.cells #[.int .i64 0, .slice none 0 0, .slice none 0 0] 25))) (World.size_alloc _ _) (by repeat (first | (with_reducible exact Chg.refl _ _) | (with_reducible assumption) | (with_reducible refine chg_drew' ?_) | (with_reducible refine chg_alloc' ?_) | (with_reducible refine Chg.tr ?_ hC7) | (with_reducible refine Chg.tr ?_ hC6) | (with_reducible refine Chg.tr ?_ hC5) | (refine Chg.setCell ?_ (.inr (by simp only []; omega)) _)))
         rintro e9 w7 ⟨v7, rfl, ho7, hC7⟩
         obtain ⟨a7, c7, a8, c8, rfl, _, _⟩ := ara_new ho7
         have hs7 : w6.heap.size ≤ w7.heap.size := (by have := hC7.size; (try simp at this); omega)
         (first
           | (have hBc := hB6; have hB7 := hBc.fr hC7)
           | (have hBc := hB6.fr ((Chg.refl (fun _ => False) _).drew); have hB7 := hBc.fr hC7)
           | (have hBc := hB6.fr ((Chg.refl (fun _ => False) _).alloc (.cells #[.bool false, .int .i64 1, .slice a5 1 c5, .slice a6 2 c6] 39)); have hB7 := hBc.fr hC7)
           | (have hBc := hB6.fr (((Chg.refl (fun _ => False) _).alloc (.cells #[.bool false, .int .i64 1, .slice a5 1 c5, .slice a6 2 c6] 39)).drew); have hB7 := hBc.fr hC7)
           | (have hBc := Bx.new w6 (.int .i64 0) (.slice none 0 0) (.slice none 0 0) 25; have hB7 := hBc.fr hC7)
           | (have hBc := (Bx.new w6 (.int .i64 0) (.slice none 0 0) (.slice none 0 0) 25).fr ((Chg.refl (fun _ => False) _).drew); have hB7 := hBc.fr hC7)
           | (have hBc := (Bx.new w6 (.int .i64 0) (.slice none 0 0) (.slice none 0 0) 25).fr ((Chg.refl (fun _ => False) _).alloc (.cells #[.bool false, .int .i64 1, .slice a5 1 c5, .slice a6 2 c6] 39)); have hB7 := hBc.fr hC7)
           | (have hBc := (Bx.new w6 (.int .i64 0) (.slice none 0 0) (.slice none 0 0) 25).fr (((Chg.refl (fun _ => False) _).alloc (.cells #[.bool false, .int .i64 1, .slice a5 1 c5, .slice a6 2 c6] 39)).drew); have hB7 := hBc.fr hC7)
           | (have hBc := Bx.at1 w6 (.cells #[.bool false, .int .i64 1, .slice a5 1 c5, .slice a6 2 c6] 39) 25; have hB7 := hBc.fr hC7)
           | (have hBc := (Bx.at1 w6 (.cells #[.bool false, .int .i64 1, .slice a5 1 c5, .slice a6 2 c6] 39) 25).fr ((Chg.refl (fun _ => False) _).drew); have hB7 := hBc.fr hC7)
           | skip)
         (first
          | (have hl7 := Lib.hid hBc.lt
             obtain ⟨z0, z1, z2, f0, f1, f2⟩ := id hB7)
          | skip))
      | fail)
    all_goals
      rename_i hHd
      go_wp2_with fail
      go_meet
      refine ⟨_, rfl, rfl, ?_, hHd.1⟩
      first
      | exact BoxA.new (A := ⟨1, [2], [7, 5]⟩) 25 ho7.ara
      | exact BoxA.set (A := ⟨1, [2], [7, 5]⟩) hB7 ho7 hl7.out
  case rest =>
    obtain ⟨x2, rfl, rfl, hb2, hCc⟩ := hcut
    replace hb1 := hb1.fr hCc
    replace hC0 := hC0.tr hCc
    clear y0 y1 y2 hCc hb1
    have h0 : Calls Try.prog 20 _ _ (GaveA _ ⟨1, [3], [1, 0, 2]⟩) := vec_lit wc [1, 0, 2] 3 rfl #[.int .i64 1, .int .i64 0, .int .i64 2] rfl (by decide)
    have hCl := (Chg.refl (fun _ => False) wc).alloc (.cells #[.int .i64 1, .int .i64 0, .int .i64 2] 2)
    go_wp2_with fail
    refine h0.mono ?_
    clear h0
    rintro e9 w5 ⟨v5, rfl, ho5, hC1⟩
    obtain ⟨a1, c1, a2, c2, rfl, _, _⟩ := ara_new ho5
    simp only [List.length_cons, List.length_nil, Nat.reduceAdd] at ho5 ⊢
    replace hb2 := hb2.fr (hCl.tr hC1)
    replace hC0 := hC0.tr (hCl.tr hC1)
    clear hCl hC1
    have h0 : Calls Try.prog 20 _ _ (GaveA _ ⟨1, [3], [7, 8, 9]⟩) := vec_lit w5 [7, 8, 9] 3 rfl #[.int .i64 7, .int .i64 8, .int .i64 9] rfl (by decide)
    have hCl := (Chg.refl (fun _ => False) w5).alloc (.cells #[.int .i64 7, .int .i64 8, .int .i64 9] 2)
    go_wp2_with fail
    refine h0.mono ?_
    clear h0
    rintro e9 w6 ⟨v6, rfl, ho6, hC1⟩
    obtain ⟨a3, c3, a4, c4, rfl, _, _⟩ := ara_new ho6
    simp only [List.length_cons, List.length_nil, Nat.reduceAdd] at ho6 ⊢
    replace hb2 := hb2.fr (hCl.tr hC1)
    replace hC0 := hC0.tr (hCl.tr hC1)
    replace ho5 := ho5.ara.fr (hCl.tr hC1)
    have h0 := al_cp' w6 _ _ ho5 ho6.ara
    clear hCl hC1 ho5 ho6
    go_wp2_with fail
    refine h0.mono ?_
    clear h0
    rintro e9 w7 ⟨v7, rfl, ho7, hC1⟩
    obtain ⟨a1, c1, a2, c2, rfl, _, _⟩ := ara_new ho7
    simp only [List.length_cons, List.length_nil, Nat.reduceAdd] at ho7 ⊢
    have hb3 := BoxA.new (A := ⟨1, [3], [7, 9, 9]⟩) 25 ho7.ara
    replace hb2 := hb2.fr (hC1.alloc (.cells #[.int .i64 1, .slice a1 1 c1, .slice a2 3 c2] 25))
    replace hC0 := hC0.tr (hC1.alloc (.cells #[.int .i64 1, .slice a1 1 c1, .slice a2 3 c2] 25))
    clear ho7 hC1
    obtain ⟨x3, hx3⟩ : ∃ x3, w7.heap.size = x3 := ⟨_, rfl⟩
    rw [hx3] at hb3
    have h0 : Calls Try.prog 20 _ _ (GaveA _ ⟨1, [4], [3, 1, 3, 2]⟩) := vec_lit (w7.alloc (.cells #[.int .i64 1, .slice a1 1 c1, .slice a2 3 c2] 25)) [3, 1, 3, 2] 4 rfl #[.int .i64 3, .int .i64 1, .int .i64 3, .int .i64 2] rfl (by decide)
    have hsz : (w7.alloc (.cells #[.int .i64 1, .slice a1 1 c1, .slice a2 3 c2] 25)).heap.size = x3 + 1 := by rw [← hx3]; simp
    rw [hsz] at h0
    have hCl := (Chg.refl (fun _ => False) (w7.alloc (.cells #[.int .i64 1, .slice a1 1 c1, .slice a2 3 c2] 25))).alloc (.cells #[.int .i64 3, .int .i64 1, .int .i64 3, .int .i64 2] 2)
    go_wp2_with fail
    refine h0.mono ?_
    clear h0
    rintro e9 w8 ⟨v8, rfl, ho8, hC1⟩
    obtain ⟨a3, c3, a4, c4, rfl, _, _⟩ := ara_new ho8
    simp only [List.length_cons, List.length_nil, Nat.reduceAdd] at ho8 ⊢
    replace hb2 := hb2.fr (hCl.tr hC1)
    replace hb3 := hb3.fr (hCl.tr hC1)
    replace hC0 := hC0.tr (hCl.tr hC1)
    have h0 := al_gr' w8 _ ho8.ara
    clear hCl hC1 hsz hx3 ho8
    go_wp2_with fail
    refine h0.mono ?_
    clear h0
    rintro e9 w9 ⟨v9, rfl, ho9, hC1⟩
    obtain ⟨a1, c1, a2, c2, rfl, _, _⟩ := ara_new ho9
    simp only [List.length_cons, List.length_nil, Nat.reduceAdd] at ho9 ⊢
    have hb4 := BoxA.new (A := ⟨1, [4], [2, 4, 1, 3]⟩) 25 ho9.ara
    replace hb2 := hb2.fr (hC1.alloc (.cells #[.int .i64 1, .slice a1 1 c1, .slice a2 4 c2] 25))
    replace hb3 := hb3.fr (hC1.alloc (.cells #[.int .i64 1, .slice a1 1 c1, .slice a2 4 c2] 25))
    replace hC0 := hC0.tr (hC1.alloc (.cells #[.int .i64 1, .slice a1 1 c1, .slice a2 4 c2] 25))
    clear ho9 hC1
    obtain ⟨x4, hx4⟩ : ∃ x4, w9.heap.size = x4 := ⟨_, rfl⟩
    rw [hx4] at hb4
    go_wp2_with fail
    clear hx4
    generalize w9.alloc (.cells #[.int .i64 1, .slice a1 1 c1, .slice a2 4 c2] 25) = w11 at *
    obtain ⟨sa, cs, sb, cb, ⟨y0, y1, y2⟩, hb2⟩ := hb2
    obtain ⟨ta, ct, tb, cu, ⟨z0, z1, z2⟩, hb3⟩ := hb3
    obtain ⟨pa, cp, pb, cq, ⟨p0, p1, p2⟩, hb4⟩ := hb4
    simp only [List.length_cons, List.length_nil, Nat.reduceAdd] at y0 y1 y2 hb2 z0 z1 z2 hb3 p0 p1 p2 hb4
    have KP := Lib.hid (show ∀ w', Chg (fun _ => False) w11 w' → (Chg (fun _ => False) w11 w' ∧ w'.cell? ⟨x2, 0, none⟩ = some (.int .i64 1) ∧ w'.cell? ⟨x2, 1, none⟩ = some (.slice sa 1 cs) ∧ w'.cell? ⟨x2, 2, none⟩ = some (.slice sb 2 cb) ∧ w'.cell? ⟨x3, 0, none⟩ = some (.int .i64 1) ∧ w'.cell? ⟨x3, 1, none⟩ = some (.slice ta 1 ct) ∧ w'.cell? ⟨x3, 2, none⟩ = some (.slice tb 3 cu) ∧ w'.cell? ⟨x4, 0, none⟩ = some (.int .i64 1) ∧ w'.cell? ⟨x4, 1, none⟩ = some (.slice pa 1 cp) ∧ w'.cell? ⟨x4, 2, none⟩ = some (.slice pb 4 cq)) from fun w' h => ⟨h, h.cell y0 id, h.cell y1 id, h.cell y2 id, h.cell z0 id, h.cell z1 id, h.cell z2 id, h.cell p0 id, h.cell p1 id, h.cell p2 id⟩)
    have H1 := Lib.hid (show ∀ w' v, Chg (fun _ => False) w11 w' → Ara w' v ⟨1, [2], [7, 5]⟩ → Calls Try.prog 24 #[.agg #[.int .i64 1, .slice sa 1 cs, .slice sb 2 cb], .int .i64 0, v] w' (GaveBo w' true) from fun w' v h hv => by have h2 := is_any _ _ ⟨1, [2], [7, 5]⟩ ⟨1, [2], [7, 5]⟩ 0 w' (hb2.fr h) hv (by simp) (by simp); rw [isB_iff.2 ⟨rfl, rfl⟩] at h2; exact h2)
    have H2 := Lib.hid (show ∀ w' v, Chg (fun _ => False) w11 w' → Ara w' v ⟨1, [3], [7, 9, 9]⟩ → Calls Try.prog 24 #[.agg #[.int .i64 1, .slice ta 1 ct, .slice tb 3 cu], .int .i64 0, v] w' (GaveBo w' true) from fun w' v h hv => by have h2 := is_any _ _ ⟨1, [3], [7, 9, 9]⟩ ⟨1, [3], [7, 9, 9]⟩ 0 w' (hb3.fr h) hv (by simp) (by simp); rw [isB_iff.2 ⟨rfl, rfl⟩] at h2; exact h2)
    have H3 := Lib.hid (show ∀ w' v, Chg (fun _ => False) w11 w' → Ara w' v ⟨1, [4], [2, 4, 1, 3]⟩ → Calls Try.prog 24 #[.agg #[.int .i64 1, .slice pa 1 cp, .slice pb 4 cq], .int .i64 0, v] w' (GaveBo w' true) from fun w' v h hv => by have h2 := is_any _ _ ⟨1, [4], [2, 4, 1, 3]⟩ ⟨1, [4], [2, 4, 1, 3]⟩ 0 w' (hb4.fr h) hv (by simp) (by simp); rw [isB_iff.2 ⟨rfl, rfl⟩] at h2; exact h2)
    have HV1 := Lib.hid (fun W => vec_litD W [7, 5] 2 rfl #[.int .i64 7, .int .i64 5] rfl (by decide))
    have HV2 := Lib.hid (fun W => vec_litD W [7, 9, 9] 3 rfl #[.int .i64 7, .int .i64 9, .int .i64 9] rfl (by decide))
    have HV3 := Lib.hid (fun W => vec_litD W [2, 4, 1, 3] 4 rfl #[.int .i64 2, .int .i64 4, .int .i64 1, .int .i64 3] rfl (by decide))
    have HW1 := Lib.hid (fun W => vec_lit W [7, 5] 2 rfl #[.int .i64 7, .int .i64 5] rfl (by decide))
    have HW2 := Lib.hid (fun W => vec_lit W [7, 9, 9] 3 rfl #[.int .i64 7, .int .i64 9, .int .i64 9] rfl (by decide))
    have HW3 := Lib.hid (fun W => vec_lit W [2, 4, 1, 3] 4 rfl #[.int .i64 2, .int .i64 4, .int .i64 1, .int .i64 3] rfl (by decide))
    have HC := Lib.hid hC0
    clear hC0
    go_region_held3 (fun w' => (Chg (fun _ => False) w11 w' ∧ w'.cell? ⟨x2, 0, none⟩ = some (.int .i64 1) ∧ w'.cell? ⟨x2, 1, none⟩ = some (.slice sa 1 cs) ∧ w'.cell? ⟨x2, 2, none⟩ = some (.slice sb 2 cb) ∧ w'.cell? ⟨x3, 0, none⟩ = some (.int .i64 1) ∧ w'.cell? ⟨x3, 1, none⟩ = some (.slice ta 1 ct) ∧ w'.cell? ⟨x3, 2, none⟩ = some (.slice tb 3 cu) ∧ w'.cell? ⟨x4, 0, none⟩ = some (.int .i64 1) ∧ w'.cell? ⟨x4, 1, none⟩ = some (.slice pa 1 cp) ∧ w'.cell? ⟨x4, 2, none⟩ = some (.slice pb 4 cq))) ((refine KP.out _ ?_; repeat (first | (with_reducible exact Chg.refl _ _) | (with_reducible assumption) | (with_reducible refine chg_drew' ?_) | (with_reducible refine chg_alloc' ?_) | (with_reducible refine Chg.tr ?_ hq6) | (with_reducible refine Chg.tr ?_ hq5) | (with_reducible refine Chg.tr ?_ hq4) | (with_reducible refine Chg.tr ?_ hq3) | (with_reducible refine Chg.tr ?_ hq2) | (with_reducible refine Chg.tr ?_ hq1)))) (first
      | (go_at_call 20
         (first | (with_reducible refine (HV1.out _).mono ?_) | (with_reducible refine (HW1.out _).mono ?_))
         rintro e9 q1 ⟨u1, rfl, hu1, hq1⟩
         have hu1a := Lib.hid hu1.ara)
      | (go_at_call 24
         with_reducible refine (H1.out _ _ ?_ ?_).mono ?_
         · repeat (first | (with_reducible exact Chg.refl _ _) | (with_reducible assumption) | (with_reducible refine chg_drew' ?_) | (with_reducible refine chg_alloc' ?_) | (with_reducible refine Chg.tr ?_ hq1))
         · first | exact hu1a.out | exact hu1a.out.fr ((Chg.refl _ _).drew)
         rintro e9 q2 ⟨rfl, hq2⟩)
      | (go_at_call 20
         (first | (with_reducible refine (HV2.out _).mono ?_) | (with_reducible refine (HW2.out _).mono ?_))
         rintro e9 q3 ⟨u3, rfl, hu3, hq3⟩
         have hu3a := Lib.hid hu3.ara)
      | (go_at_call 24
         with_reducible refine (H2.out _ _ ?_ ?_).mono ?_
         · repeat (first | (with_reducible exact Chg.refl _ _) | (with_reducible assumption) | (with_reducible refine chg_drew' ?_) | (with_reducible refine chg_alloc' ?_) | (with_reducible refine Chg.tr ?_ hq3) | (with_reducible refine Chg.tr ?_ hq2) | (with_reducible refine Chg.tr ?_ hq1))
         · first | exact hu3a.out | exact hu3a.out.fr ((Chg.refl _ _).drew)
         rintro e9 q4 ⟨rfl, hq4⟩)
      | (go_at_call 20
         (first | (with_reducible refine (HV3.out _).mono ?_) | (with_reducible refine (HW3.out _).mono ?_))
         rintro e9 q5 ⟨u5, rfl, hu5, hq5⟩
         have hu5a := Lib.hid hu5.ara)
      | (go_at_call 24
         with_reducible refine (H3.out _ _ ?_ ?_).mono ?_
         · repeat (first | (with_reducible exact Chg.refl _ _) | (with_reducible assumption) | (with_reducible refine chg_drew' ?_) | (with_reducible refine chg_alloc' ?_) | (with_reducible refine Chg.tr ?_ hq5) | (with_reducible refine Chg.tr ?_ hq4) | (with_reducible refine Chg.tr ?_ hq3) | (with_reducible refine Chg.tr ?_ hq2) | (with_reducible refine Chg.tr ?_ hq1))
         · first | exact hu5a.out | exact hu5a.out.fr ((Chg.refl _ _).drew)
         rintro e9 q6 ⟨rfl, hq6⟩)
      | fail)
    all_goals
      rename_i hHd
      go_wp2
      go_ret
      exact ⟨rfl, HC.out.tr hHd.1⟩
end
end Go.Proofs.Ytnjnajbdpaaikaa
