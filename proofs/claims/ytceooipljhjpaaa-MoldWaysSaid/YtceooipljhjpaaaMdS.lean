/- mold: Tally. -/
import Derived.Test.YtceooipljhjpaaaMdR
namespace Go.Proofs.Ytceooipljhjpaaa
open Go.RowKit Go.Shelf

theorem hd_app (t : List Int) (h : 0 < (t ++ [1]).length) : (t ++ [1])[0] = t.headD 1 := by
  cases t with
  | nil => rfl
  | cons x r => rfl
set_option maxRecDepth 100000 in
set_option maxHeartbeats 2000000 in
theorem tally_any (u : Value) (A : Ar) (w : World) (hA : Ara w u A) (hle : A.e.length ≤ 1000000) : Calls Try.prog 38 #[u] w (GaveAE w (talA A) (chkN A)) := by
  have hA' := hA
  obtain ⟨k, t, e⟩ := A
  obtain ⟨vt, ve, rfl, ht, he⟩ := hA
  simp only at ht he hle
  obtain ⟨ta, ct, rfl, _⟩ := ht.form
  obtain ⟨ae, ce, rfl, _⟩ := he.form
  have hC0 := ((Chg.refl (fun _ => False) w).alloc (.cells #[.int .i64 k, .slice ta t.length ct, .slice ae e.length ce] 25)).alloc (.cells #[.int .i64 0, .slice none 0 0, .slice none 0 0] 25)
  have hK1 := (Chg.refl (fun _ => False) (w.alloc (.cells #[.int .i64 k, .slice ta t.length ct, .slice ae e.length ce] 25))).alloc (.cells #[.int .i64 0, .slice none 0 0, .slice none 0 0] 25)
  obtain ⟨y0, y1, y2⟩ := cell_two w (.int .i64 k) (.slice ta t.length ct) (.slice ae e.length ce) 25
  have hB0 := Bx.new (w.alloc (.cells #[.int .i64 k, .slice ta t.length ct, .slice ae e.length ce] 25)) (.int .i64 0) (.slice none 0 0) (.slice none 0 0) 25
  rw [World.size_alloc] at hB0
  replace y0 := hK1.cell y0 id
  replace y1 := hK1.cell y1 id
  replace y2 := hK1.cell y2 id
  have hsh := shape_any _ ⟨k, t, e⟩ _ (hA'.fr hC0) hle
  obtain ⟨i0, hi, hz0, hz1, hz2⟩ := info_parts info_long
  have HC := Lib.hid hC0
  clear hA' ht he hC0 hK1 hle
  cases hca : chkB ⟨k, t, e⟩ with
  | false =>
    have HR := Lib.hid (show talA ⟨k, t, e⟩ = noA ∧ chkN ⟨k, t, e⟩ = 110 by unfold talA chkN; rw [hca]; exact ⟨rfl, rfl⟩)
    have HR2 := Lib.hid (show shpA ⟨k, t, e⟩ = noA by unfold shpA; rw [hca]; rfl)
    rw [HR2.out, HR.out.2] at hsh
    clear hca
    go_enter Try.func38, Try.ntmps38
    go_wp2_with fail
    refine hsh.mono ?_
    clear hsh
    rintro e9 w1 ⟨v1, rfl, ho1, hC1⟩
    obtain ⟨a5, c5, a6, c6, rfl, _, _⟩ := ara_new ho1
    have hsz : w.heap.size + 1 < w1.heap.size := (hB0.fr hC1).lt
    obtain ⟨r0, r1, r2, s0, s1, s2⟩ := hB0.fr hC1
    obtain ⟨⟨g0, g1⟩, g2⟩ := set3_cells (.int .i64 0) (.slice none 0 0) (.slice none 0 0) r0 r1 r2
    replace g0 := alloc_cell g0 (.cells #[.int .i64 0, .slice a5 0 c5, .slice a6 0 c6] 25)
    replace g1 := alloc_cell g1 (.cells #[.int .i64 0, .slice a5 0 c5, .slice a6 0 c6] 25)
    replace g2 := alloc_cell g2 (.cells #[.int .i64 0, .slice a5 0 c5, .slice a6 0 c6] 25)
    have HC1 := Lib.hid (HC.out.tr hC1)
    clear hB0 hC1 ho1 y0 y1 y2
    simp only [noA, List.length_nil]
    go_wp2
    simp [bodyPost, results, Try.results38, go_sem, g0, g1, g2]
    rw [HR.out.1, HR.out.2]
    obtain ⟨v9, e9, o9, c9⟩ := leaveNo (w := w) (b := w.heap.size + 1) (n := 110) (Nat.le_succ _) HC1.out
    exact ⟨v9, e9, o9.fr ((Chg.refl _ _).alloc _), c9.alloc _⟩
  | true =>
    have HR := Lib.hid (show talA ⟨k, t, e⟩ = ⟨1, [], [t.headD 1]⟩ ∧ chkN ⟨k, t, e⟩ = 0 by unfold talA chkN; rw [hca]; exact ⟨rfl, rfl⟩)
    rw [show shpA ⟨k, t, e⟩ = ⟨1, [(t.length : Int)], t⟩ by unfold shpA; rw [hca]; rfl, HR.out.2] at hsh
    have HTL := Lib.hid (show t.length ≤ 4 from (shB_iff.1 (chkB_iff.1 hca).1).1)
    clear hca
    go_enter Try.func38, Try.ntmps38
    go_wp2_with fail
    refine hsh.mono ?_
    clear hsh
    rintro e9 w1 ⟨v1, rfl, ho1, hC1⟩
    obtain ⟨a5, c5, a6, c6, rfl, q1, q2⟩ := ara_new ho1
    simp only [List.length_cons, List.length_nil, Nat.reduceAdd] at ho1 q1 q2 ⊢
    have hCb := (Chg.refl (fun _ => False) w1).alloc (.cells #[.int .i64 1, .slice a5 1 c5, .slice a6 t.length c6] 25)
    have hCl := hCb.alloc (.cells #[.int .i64 1] 2)
    have HB := Lib.hid (hB0.fr (hC1.tr hCl))
    have HQ := Lib.hid (q2.fr hCl)
    have HCC := Lib.hid (HC.out.tr (hC1.tr hCl))
    have ONE := Lib.hid (show ∀ j u, [(.int .i64 1 : Value)][j]? = some u → ((w1.alloc (.cells #[.int .i64 1, .slice a5 1 c5, .slice a6 t.length c6] 25)).alloc (.cells #[.int .i64 1] 2)).cell? ((⟨w1.heap.size + 1, 0, none⟩ : Addr).add j) = some u from fun j u hj => by
      have hk := new_cell (w1.alloc (.cells #[.int .i64 1, .slice a5 1 c5, .slice a6 t.length c6] 25)) #[.int .i64 1] 2 (i := 0) rfl
      rw [World.size_alloc] at hk
      cases j with
      | zero => cases hj; exact hk
      | succ j => simp at hj)
    have hsz : w.heap.size + 1 < w1.heap.size := (hB0.fr hC1).lt
    have HSZ := Lib.hid (show ∀ W base, Own W base 2 (.slice a6 t.length c6) t → True from fun _ _ _ => trivial)
    have HBASE := Lib.hid (show ∀ q, (Value.slice a6 t.length c6).ownBlock = some q → w.heap.size + 1 < q from fun q hq => by have := (q2.lt q hq).1; simp at this; omega)
    obtain ⟨X, hX⟩ : ∃ X, t.headD 1 = X := ⟨_, rfl⟩
    have HHD := Lib.hid hX
    rw [hX] at HR
    clear hCb hCl hB0 hC1 ho1 q1 y0 y1 y2 hX
    go_wp2_with (at_builtin; go_must (refine wpList_append_own_any rfl (.tmp 16) (.tmp 17) 23 rfl w.heap.size 2 i0 (.int .i64 0) 1 8 Try.underlying23 hi hz0 hz1 hz2 rfl (by decide) (.slice a6 t.length c6) _ _ rfl (HQ.out.mono (by simp; omega)) (some ⟨w1.heap.size + 1, 0, none⟩) 1 1 [.int .i64 1] rfl rfl (fun j u hu => ⟨_, rfl, ONE.out j u hu⟩) (by simp [Value.oneCell']) (by have := HTL.out; unfold maxLen; omega) (by have := HTL.out; omega) (by simp; omega) ?_; intro v2 w2 hown2 hg _ _; have hown3 : Own w2 w.heap.size 2 v2 (t ++ [1]) := (by unfold Own; rw [List.length_append, List.map_append]; exact hown2); obtain ⟨b2, o2, cp2, rfl, hx2⟩ := hown3.ls.at (j := 0) (by simp); rw [hd_app, HHD.out] at hx2; rw [Nat.add_zero] at hx2; have hln : (0 : Int) < ((t ++ [1]).length : Int) := Int.natCast_pos.2 (by simp); have hCg : Chg (fun q => (Value.slice a6 t.length c6).ownBlock = some q) _ w2 := (Chg.refl _ _).grown hg (fun k e => .inl e); have hB2 := HB.out.chg hCg (fun e => by have := HBASE.out _ e; omega); have HC2 := Lib.hid (HCC.out.trans hCg (fun _ _ h => h) (fun i hi e => by have := HBASE.out _ e; omega)); have hsc := ascalar_any X w2; clear hown2 hown3 hg hCg; obtain ⟨n2, hn2⟩ : ∃ n2, (t ++ [1]).length = n2 := ⟨_, rfl⟩; rw [hn2] at hln ⊢))
    refine hsc.mono ?_
    clear hsc
    rintro e9 w4 ⟨v4, rfl, ho4, hC4⟩
    obtain ⟨a7, c7, a8, c8, hv4, q1, q3⟩ := ara_new ho4
    subst hv4
    obtain ⟨z0, z1, z2, f0, f1, f2⟩ := hB2.fr hC4
    obtain ⟨⟨g0, g1⟩, g2⟩ := set3_cells (.int .i64 1) (.slice a7 0 c7) (.slice a8 1 c8) z0 z1 z2
    have HC4 := Lib.hid (HC2.out.tr hC4)
    have HLT := Lib.hid hB2.lt
    clear hC4 ho4 hB2
    go_wp2
    simp [bodyPost, results, Try.results38, go_sem, g0, g1, g2]
    rw [HR.out.1, HR.out.2]
    exact leaveAE q1 q3 (Nat.le_succ _) HLT.out HLT.out HC4.out
end Go.Proofs.Ytceooipljhjpaaa
