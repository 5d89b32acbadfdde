/- The mold statements' helpers: great, is, matrix. -/
import Derived.Test.YtceooipljhjpaaaArJ
import Derived.Test.YtceooipljhjpaaaArD
namespace Go.Proofs.Ytceooipljhjpaaa
open Go.RowKit Go.Shelf

def grtB (A B : Ar) : Bool := decide (0 < grtN A) || decide (0 < grtN B)
theorem grtB_not {A B : Ar} (h : grtB A B = false) : (A.e.length ≤ 5000 ∧ A.s.length ≤ 100) ∧ B.e.length ≤ 5000 ∧ B.s.length ≤ 100 := by
  unfold grtB grtN at h
  split at h <;> split at h <;> simp at h <;> omega
theorem grtN_not {A : Ar} (h : ¬ 0 < grtN A) : A.e.length ≤ 5000 ∧ A.s.length ≤ 100 := by
  unfold grtN at h
  split at h
  · exact absurd (by decide) h
  · omega
set_option maxHeartbeats 400000 in
theorem great_any (u v : Value) (A B : Ar) (w : World) (hA : Ara w u A) (hB : Ara w v B) : Calls Try.prog 11 #[u, v] w (GaveBo w (grtB A B)) := by
  have hA' := hA
  have hB' := hB
  obtain ⟨k, s, e⟩ := A
  obtain ⟨l, t, f⟩ := B
  obtain ⟨vs, ve, hu, hs, he⟩ := hA
  obtain ⟨vt, vf, hv, ht, hf⟩ := hB
  simp only at hu hv hs he ht hf
  subst hu hv
  obtain ⟨sa, cs, rfl, _⟩ := hs.form
  obtain ⟨ae, ce, rfl, _⟩ := he.form
  obtain ⟨ta, ct, rfl, _⟩ := ht.form
  obtain ⟨fa, cf, rfl, _⟩ := hf.form
  have hC0 := ((Chg.refl (fun _ => False) w).alloc (.cells #[.int .i64 k, .slice sa s.length cs, .slice ae e.length ce] 25)).alloc (.cells #[.int .i64 l, .slice ta t.length ct, .slice fa f.length cf] 25)
  have h1 := r11great_any _ _ _ (hA'.fr hC0)
  have h2 := fun w' (h : Chg (fun _ => False) w w') => r11great_any _ _ w' (hB'.fr h)
  unfold grtB
  obtain ⟨y0, y1, y2⟩ := cell_two (w.alloc (.cells #[.int .i64 k, .slice sa s.length cs, .slice ae e.length ce] 25)) (.int .i64 l) (.slice ta t.length ct) (.slice fa f.length cf) 25
  rw [World.size_alloc] at y0 y1 y2
  generalize grtN ⟨k, s, e⟩ = n at *
  generalize grtN ⟨l, t, f⟩ = m at *
  have HC := Lib.hid hC0
  have H2 := Lib.hid h2
  clear hs he ht hf hA' hB' h2
  cases hn : decide (0 < n) with
  | true =>
    go_enter Try.func11, Try.ntmps11
    go_wp2_with fail
    refine h1.mono ?_
    clear h1 hC0
    rintro e9 w1 ⟨rfl, hC1⟩
    replace y0 := hC1.cell y0 id
    replace y1 := hC1.cell y1 id
    replace y2 := hC1.cell y2 id
    go_wp2
    go_ret
    exact ⟨rfl, HC.out.tr hC1⟩
  | false =>
    go_enter Try.func11, Try.ntmps11
    go_wp2_with fail
    refine h1.mono ?_
    clear h1 hC0
    rintro e9 w1 ⟨rfl, hC1⟩
    replace y0 := hC1.cell y0 id
    replace y1 := hC1.cell y1 id
    replace y2 := hC1.cell y2 id
    have h3 := H2.out _ (HC.out.tr hC1)
    replace HC := Lib.hid (HC.out.tr hC1)
    clear hC1
    go_wp2_with fail
    refine h3.mono ?_
    clear h3
    rintro e9 w2 ⟨rfl, hC2⟩
    go_wp2
    go_ret
    exact ⟨by simp, HC.out.tr hC2⟩
def isB (A : Ar) (n : Int) (B : Ar) : Bool := n == 0 && sameA A B
theorem isB_iff {A B : Ar} {n : Int} : isB A n B = true ↔ n = 0 ∧ A = B := by
  simp [isB, sameA_iff]
set_option maxHeartbeats 400000 in
theorem is_any (u v : Value) (A B : Ar) (n : Int) (w : World) (hA : Ara w u A) (hB : Ara w v B) (hl : A.e.length ≤ 1000000) (hm : A.s.length ≤ 1000000) : Calls Try.prog 30 #[u, .int .i64 n, v] w (GaveBo w (isB A n B)) := by
  have hA' := hA
  have hB' := hB
  unfold isB
  have hsm := fun w' (h : Chg (fun _ => False) w w') => asame_any _ _ A B w' (hA'.fr h) (hB'.fr h) hl hm
  obtain ⟨k, s, e⟩ := A
  obtain ⟨l, t, f⟩ := B
  obtain ⟨vs, ve, hu, hs, he⟩ := hA
  obtain ⟨vt, vf, hv, ht, hf⟩ := hB
  simp only at hu hv hs he ht hf
  subst hu hv
  obtain ⟨sa, cs, rfl, _⟩ := hs.form
  obtain ⟨ae, ce, rfl, _⟩ := he.form
  obtain ⟨ta, ct, rfl, _⟩ := ht.form
  obtain ⟨fa, cf, rfl, _⟩ := hf.form
  have hC0 := ((Chg.refl (fun _ => False) w).alloc (.cells #[.int .i64 k, .slice sa s.length cs, .slice ae e.length ce] 25)).alloc (.cells #[.int .i64 l, .slice ta t.length ct, .slice fa f.length cf] 25)
  have h1 := hsm _ hC0
  generalize sameA ⟨k, s, e⟩ ⟨l, t, f⟩ = b at *
  have HC := Lib.hid hC0
  clear hs he ht hf hA' hB' hsm hC0
  by_cases hn : n = 0
  · subst hn
    go_enter Try.func30, Try.ntmps30
    go_wp2_with fail
    refine h1.mono ?_
    clear h1
    rintro e9 w1 ⟨rfl, hC1⟩
    go_wp2
    go_ret
    exact ⟨by simp, HC.out.tr hC1⟩
  · have hb : (n == 0) = false := beq_eq_false_iff_ne.2 hn
    clear hn h1
    go_enter Try.func30, Try.ntmps30
    go_wp2
    go_ret
    exact ⟨rfl, HC.out⟩
/-- Numbers in rows. -/
def matA (m : Int) (e : List Int) : Ar := ⟨1, [(e.length : Int) / m, m], e⟩
set_option maxHeartbeats 400000 in
theorem matrix_any (v : Value) (m : Int) (e : List Int) (w : World) (hm : 0 < m) (he : Ls w v e) (hl : e.length ≤ 1000000) : Calls Try.prog 31 #[.int .i64 m, v] w (fun r w' => ∃ v', r = .returned v' ∧ Ara w' v' (matA m e) ∧ Chg (fun _ => False) w w') := by
  obtain ⟨ae, ce, rfl, _⟩ := he.form
  have hm0 : ¬ m = 0 := by omega
  have hq : Int.tdiv (e.length : Int) m = (e.length : Int) / m := Int.tdiv_eq_ediv_of_nonneg (by omega)
  have hq0 : 0 ≤ (e.length : Int) / m := Int.ediv_nonneg (by omega) (by omega)
  have hq1 : (e.length : Int) / m ≤ e.length := Int.ediv_le_self _ (by omega)
  obtain ⟨q, hqq⟩ : ∃ q, (e.length : Int) / m = q := ⟨_, rfl⟩
  rw [hqq] at hq hq0 hq1
  have hw : IntKind.i64.wrap q = q := IntWalk.i64_in _ (by omega)
  have HR := Lib.hid (show matA m e = ⟨1, [q, m], e⟩ by unfold matA; rw [hqq])
  have hsl := own_lit (w.alloc (.cells #[.int .i64 1, .slice (some ⟨w.heap.size + 1, 0, none⟩) 2 2, .slice ae e.length ce] 25)) 3 [q, m] 2 rfl #[.int .i64 q, .int .i64 m] rfl (by simp)
  rw [World.size_alloc] at hsl
  have HC := Lib.hid (((Chg.refl (fun _ => False) w).alloc (.cells #[.int .i64 1, .slice (some ⟨w.heap.size + 1, 0, none⟩) 2 2, .slice ae e.length ce] 25)).alloc (.cells #[.int .i64 q, .int .i64 m] 3))
  have HE := Lib.hid he
  have HSL := Lib.hid hsl
  clear hqq hq0 hq1 he hsl
  go_enter Try.func31, Try.ntmps31
  go_wp2
  simp [bodyPost, results, Try.results31, go_sem]
  rw [HR.out]
  exact ⟨Ara.mk (k := 1) HSL.out.ls (HE.out.fr HC.out), HC.out⟩
end Go.Proofs.Ytceooipljhjpaaa
