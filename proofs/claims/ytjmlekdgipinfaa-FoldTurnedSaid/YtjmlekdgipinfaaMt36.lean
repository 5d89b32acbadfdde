/- fold: a table of rows. -/
import Derived.Test.YtjmlekdgipinfaaMt35
namespace Go.Proofs.Ytjmlekdgipinfaa
open Go.RowKit Go.Shelf

def tbl (f k many long : Int) (vs ve : Value) : Value := .agg #[.int .i64 f, .int .i64 k, vs, ve, .int .i64 many, .int .i64 long]
def noT : Value := tbl 0 0 0 0 (.slice none 0 0) (.slice none 0 0)
theorem set6_cells {w : World} {g : Nat} {z0 z1 z2 z3 z4 z5 : Value} (a b c d e f : Value) (h0 : w.cell? ⟨g, 0, none⟩ = some z0) (h1 : w.cell? ⟨g, 1, none⟩ = some z1) (h2 : w.cell? ⟨g, 2, none⟩ = some z2) (h3 : w.cell? ⟨g, 3, none⟩ = some z3) (h4 : w.cell? ⟨g, 4, none⟩ = some z4) (h5 : w.cell? ⟨g, 5, none⟩ = some z5) :
    let W := (((((w.setCell ⟨g, 0, none⟩ a).setCell ⟨g, 1, none⟩ b).setCell ⟨g, 2, none⟩ c).setCell ⟨g, 3, none⟩ d).setCell ⟨g, 4, none⟩ e).setCell ⟨g, 5, none⟩ f
    (W.cell? ⟨g, 0, none⟩ = some a ∧ W.cell? ⟨g, 1, none⟩ = some b ∧ W.cell? ⟨g, 2, none⟩ = some c ∧ W.cell? ⟨g, 3, none⟩ = some d ∧ W.cell? ⟨g, 4, none⟩ = some e ∧ W.cell? ⟨g, 5, none⟩ = some f) ∧ Chg (fun q => q = g) w W := by
  have o : ∀ {w : World} {i j : Nat} {u v : Value}, i ≠ j → w.cell? ⟨g, i, none⟩ = some v → (w.setCell ⟨g, j, none⟩ u).cell? ⟨g, i, none⟩ = some v := fun hne h => (World.cell?_setCell_other _ _ _ _ (fun e => hne (by cases e; rfl))).trans h
  have s : ∀ {w : World} {i : Nat} {u z : Value}, w.cell? ⟨g, i, none⟩ = some z → (w.setCell ⟨g, i, none⟩ u).cell? ⟨g, i, none⟩ = some u := fun h => World.cell?_setCell_same' _ _ _ (by rw [h]; rfl)
  refine ⟨⟨?_, ?_, ?_, ?_, ?_, ?_⟩, ?_⟩
  · exact o (by decide) (o (by decide) (o (by decide) (o (by decide) (o (by decide) (s h0)))))
  · exact o (by decide) (o (by decide) (o (by decide) (o (by decide) (s (o (by decide) h1)))))
  · exact o (by decide) (o (by decide) (o (by decide) (s (o (by decide) (o (by decide) h2)))))
  · exact o (by decide) (o (by decide) (s (o (by decide) (o (by decide) (o (by decide) h3)))))
  · exact o (by decide) (s (o (by decide) (o (by decide) (o (by decide) (o (by decide) h4)))))
  · exact s (o (by decide) (o (by decide) (o (by decide) (o (by decide) (o (by decide) h5)))))
  · have t : ∀ {a b : World} {i : Nat} {u : Value}, Chg (fun q => q = g) a b → Chg (fun q => q = g) a (b.setCell ⟨g, i, none⟩ u) := fun h => h.setCell (.inl rfl) _
    exact t (t (t (t (t (t (Chg.refl _ _))))))
def GaveT (w : World) (f : Int) (A : Ar) (vs ve : Value) (e : Ending) (w' : World) : Prop := ∃ tv, e = .returned (.tuple #[tv, .int .i64 (fineE f A)]) ∧ (fineE f A = 0 → tv = tbl f A.k (manyN A.s) (longN A.s) vs ve) ∧ (fineE f A ≠ 0 → tv = noT) ∧ Chg (fun _ => False) w w'
set_option maxRecDepth 100000 in
set_option maxHeartbeats 2000000 in
theorem begun_any (f : Int) (vs ve : Value) (A : Ar) (w : World) (hs : Ls w vs A.s) (he : Ls w ve A.e) (hl : A.e.length ≤ 1000000) : Calls Try.prog 58 #[.int .i64 f, .agg #[.int .i64 A.k, vs, ve]] w (GaveT w f A vs ve) := by
  have hA : Ara w (.agg #[.int .i64 A.k, vs, ve]) A := ⟨_, _, rfl, hs, he⟩
  obtain ⟨sa, cs, rfl, _⟩ := hs.form
  obtain ⟨ae, ce, rfl, _⟩ := he.form
  obtain ⟨k, s, e⟩ := A
  simp only at hs he hl hA ⊢
  have hC0 := ((Chg.refl (fun _ => False) w).alloc (.cells #[.int .i64 k, .slice sa s.length cs, .slice ae e.length ce] 25)).alloc (.cells #[.int .i64 0, .int .i64 0, .slice none 0 0, .slice none 0 0, .int .i64 0, .int .i64 0] 86)
  have hK1 := (Chg.refl (fun _ => False) (w.alloc (.cells #[.int .i64 k, .slice sa s.length cs, .slice ae e.length ce] 25))).alloc (.cells #[.int .i64 0, .int .i64 0, .slice none 0 0, .slice none 0 0, .int .i64 0, .int .i64 0] 86)
  obtain ⟨y0, y1, y2⟩ := cell_two w (.int .i64 k) (.slice sa s.length cs) (.slice ae e.length ce) 25
  replace y0 := hK1.cell y0 id
  replace y1 := hK1.cell y1 id
  replace y2 := hK1.cell y2 id
  have z0 := new_cell (w.alloc (.cells #[.int .i64 k, .slice sa s.length cs, .slice ae e.length ce] 25)) #[.int .i64 0, .int .i64 0, .slice none 0 0, .slice none 0 0, .int .i64 0, .int .i64 0] 86 (i := 0) (v := .int .i64 0) rfl
  have z1 := new_cell (w.alloc (.cells #[.int .i64 k, .slice sa s.length cs, .slice ae e.length ce] 25)) #[.int .i64 0, .int .i64 0, .slice none 0 0, .slice none 0 0, .int .i64 0, .int .i64 0] 86 (i := 1) (v := .int .i64 0) rfl
  have z2 := new_cell (w.alloc (.cells #[.int .i64 k, .slice sa s.length cs, .slice ae e.length ce] 25)) #[.int .i64 0, .int .i64 0, .slice none 0 0, .slice none 0 0, .int .i64 0, .int .i64 0] 86 (i := 2) (v := .slice none 0 0) rfl
  have z3 := new_cell (w.alloc (.cells #[.int .i64 k, .slice sa s.length cs, .slice ae e.length ce] 25)) #[.int .i64 0, .int .i64 0, .slice none 0 0, .slice none 0 0, .int .i64 0, .int .i64 0] 86 (i := 3) (v := .slice none 0 0) rfl
  have z4 := new_cell (w.alloc (.cells #[.int .i64 k, .slice sa s.length cs, .slice ae e.length ce] 25)) #[.int .i64 0, .int .i64 0, .slice none 0 0, .slice none 0 0, .int .i64 0, .int .i64 0] 86 (i := 4) (v := .int .i64 0) rfl
  have z5 := new_cell (w.alloc (.cells #[.int .i64 k, .slice sa s.length cs, .slice ae e.length ce] 25)) #[.int .i64 0, .int .i64 0, .slice none 0 0, .slice none 0 0, .int .i64 0, .int .i64 0] 86 (i := 5) (v := .int .i64 0) rfl
  have q0 := new_frozen (w.alloc (.cells #[.int .i64 k, .slice sa s.length cs, .slice ae e.length ce] 25)) #[.int .i64 0, .int .i64 0, .slice none 0 0, .slice none 0 0, .int .i64 0, .int .i64 0] 86 0
  have q1 := new_frozen (w.alloc (.cells #[.int .i64 k, .slice sa s.length cs, .slice ae e.length ce] 25)) #[.int .i64 0, .int .i64 0, .slice none 0 0, .slice none 0 0, .int .i64 0, .int .i64 0] 86 1
  have q2 := new_frozen (w.alloc (.cells #[.int .i64 k, .slice sa s.length cs, .slice ae e.length ce] 25)) #[.int .i64 0, .int .i64 0, .slice none 0 0, .slice none 0 0, .int .i64 0, .int .i64 0] 86 2
  have q3 := new_frozen (w.alloc (.cells #[.int .i64 k, .slice sa s.length cs, .slice ae e.length ce] 25)) #[.int .i64 0, .int .i64 0, .slice none 0 0, .slice none 0 0, .int .i64 0, .int .i64 0] 86 3
  have q4 := new_frozen (w.alloc (.cells #[.int .i64 k, .slice sa s.length cs, .slice ae e.length ce] 25)) #[.int .i64 0, .int .i64 0, .slice none 0 0, .slice none 0 0, .int .i64 0, .int .i64 0] 86 4
  have q5 := new_frozen (w.alloc (.cells #[.int .i64 k, .slice sa s.length cs, .slice ae e.length ce] 25)) #[.int .i64 0, .int .i64 0, .slice none 0 0, .slice none 0 0, .int .i64 0, .int .i64 0] 86 5
  rw [World.size_alloc] at z0 z1 z2 z3 z4 z5 q0 q1 q2 q3 q4 q5
  have hbi := binary_any f
  unfold SaidB at hbi
  have hck := check_any _ ⟨k, s, e⟩ _ (hA.fr hC0) hl
  unfold GaveI at hck
  have hrw := fun w' (h : Chg (fun _ => False) w w') => rows_any _ s w' (hs.fr h)
  unfold GaveRw at hrw
  have HRW := Lib.hid hrw
  have HC0 := Lib.hid hC0
  clear hs he hA hK1 hrw
  cases hb : binB f with
  | false =>
    have HR := Lib.hid (show fineE f ⟨k, s, e⟩ = 2 by unfold fineE; rw [hb]; rfl)
    rw [hb] at hbi
    have HC := Lib.hid hC0
    clear hb hck hC0
    go_enter Try.func58, Try.ntmps58
    go_wp2_with (go_at_call 19; refine (hbi _).mono ?_; rintro e9 w1 ⟨rfl, rfl⟩)
    go_wp2
    simp [bodyPost, results, Try.results58, go_sem, z0, z1, z2, z3, z4, z5]
    exact ⟨_, by rw [HR.out]; rfl, fun h => absurd (HR.out.symm.trans h) (by decide), fun _ => rfl, HC.out⟩
  | true =>
    rw [hb] at hbi
    cases hca : chkB ⟨k, s, e⟩ with
    | false =>
      have HR := Lib.hid (show fineE f ⟨k, s, e⟩ = 110 by unfold fineE; rw [hb, hca]; rfl)
      rw [show chkE ⟨k, s, e⟩ = 110 by unfold chkE; rw [hca]; rfl] at hck
      clear hb hC0 hca
      go_enter Try.func58, Try.ntmps58
      go_wp2_with (go_at_call 19; refine (hbi _).mono ?_; rintro e9 w1 ⟨rfl, rfl⟩)
      refine hck.mono ?_
      clear hck
      rintro e9 w2 ⟨rfl, hC2⟩
      replace y0 := hC2.cell y0 id
      replace y1 := hC2.cell y1 id
      replace y2 := hC2.cell y2 id
      replace q0 := hC2.frozen z0 q0 id
      replace q1 := hC2.frozen z1 q1 id
      replace q2 := hC2.frozen z2 q2 id
      replace q3 := hC2.frozen z3 q3 id
      replace q4 := hC2.frozen z4 q4 id
      replace q5 := hC2.frozen z5 q5 id
      replace z0 := hC2.cell z0 id
      replace z1 := hC2.cell z1 id
      replace z2 := hC2.cell z2 id
      replace z3 := hC2.cell z3 id
      replace z4 := hC2.cell z4 id
      replace z5 := hC2.cell z5 id
      have HC := Lib.hid (HC0.out.tr hC2)
      clear hC2
      obtain ⟨⟨g0, g1, g2, g3, g4, g5⟩, hg⟩ := set6_cells (.int .i64 0) (.int .i64 0) (.slice none 0 0) (.slice none 0 0) (.int .i64 0) (.int .i64 0) z0 z1 z2 z3 z4 z5
      have HG := Lib.hid hg
      clear hg
      go_wp2
      simp [bodyPost, results, Try.results58, go_sem, g0, g1, g2, g3, g4, g5]
      exact ⟨_, by rw [HR.out]; rfl, fun h => absurd (HR.out.symm.trans h) (by decide), fun _ => rfl, HC.out.trans HG.out (fun _ _ h => h) (fun i hi h => by omega)⟩
    | true =>
      rw [show chkE ⟨k, s, e⟩ = 0 by unfold chkE; rw [hca]; rfl] at hck
      by_cases hk : k = 2
      · have HR := Lib.hid (show fineE f ⟨k, s, e⟩ = 5 by unfold fineE; rw [hb, hca, if_pos rfl, if_pos rfl, if_pos hk])
        have b1 : (k == 2) = true := beq_iff_eq.2 hk
        clear hb hC0 hca hk
        go_enter Try.func58, Try.ntmps58
        go_wp2_with (go_at_call 19; refine (hbi _).mono ?_; rintro e9 w1 ⟨rfl, rfl⟩)
        refine hck.mono ?_
        clear hck
        rintro e9 w2 ⟨rfl, hC2⟩
        replace y0 := hC2.cell y0 id
        replace y1 := hC2.cell y1 id
        replace y2 := hC2.cell y2 id
        replace q0 := hC2.frozen z0 q0 id
        replace q1 := hC2.frozen z1 q1 id
        replace q2 := hC2.frozen z2 q2 id
        replace q3 := hC2.frozen z3 q3 id
        replace q4 := hC2.frozen z4 q4 id
        replace q5 := hC2.frozen z5 q5 id
        replace z0 := hC2.cell z0 id
        replace z1 := hC2.cell z1 id
        replace z2 := hC2.cell z2 id
        replace z3 := hC2.cell z3 id
        replace z4 := hC2.cell z4 id
        replace z5 := hC2.cell z5 id
        have HC := Lib.hid (HC0.out.tr hC2)
        clear hC2
        obtain ⟨⟨g0, g1, g2, g3, g4, g5⟩, hg⟩ := set6_cells (.int .i64 0) (.int .i64 0) (.slice none 0 0) (.slice none 0 0) (.int .i64 0) (.int .i64 0) z0 z1 z2 z3 z4 z5
        have HG := Lib.hid hg
        clear hg
        go_wp2
        simp [bodyPost, results, Try.results58, go_sem, g0, g1, g2, g3, g4, g5]
        exact ⟨_, by rw [HR.out]; rfl, fun h => absurd (HR.out.symm.trans h) (by decide), fun _ => rfl, HC.out.trans HG.out (fun _ _ h => h) (fun i hi h => by omega)⟩
      · have HR := Lib.hid (show fineE f ⟨k, s, e⟩ = 0 by unfold fineE; rw [hb, hca, if_pos rfl, if_pos rfl, if_neg hk])
        have b1 : (k == 2) = false := beq_eq_false_iff_ne.2 hk
        clear hb hC0 hca hk
        go_enter Try.func58, Try.ntmps58
        go_wp2_with (go_at_call 19; refine (hbi _).mono ?_; rintro e9 w1 ⟨rfl, rfl⟩)
        refine hck.mono ?_
        clear hck
        rintro e9 w2 ⟨rfl, hC2⟩
        replace y0 := hC2.cell y0 id
        replace y1 := hC2.cell y1 id
        replace y2 := hC2.cell y2 id
        replace q0 := hC2.frozen z0 q0 id
        replace q1 := hC2.frozen z1 q1 id
        replace q2 := hC2.frozen z2 q2 id
        replace q3 := hC2.frozen z3 q3 id
        replace q4 := hC2.frozen z4 q4 id
        replace q5 := hC2.frozen z5 q5 id
        replace z0 := hC2.cell z0 id
        replace z1 := hC2.cell z1 id
        replace z2 := hC2.cell z2 id
        replace z3 := hC2.cell z3 id
        replace z4 := hC2.cell z4 id
        replace z5 := hC2.cell z5 id
        have HC := Lib.hid (HC0.out.tr hC2)
        clear hC2
        have h1 := HRW.out w2 HC.out
        go_wp2_with fail
        refine h1.mono ?_
        clear h1
        rintro e9 w3 ⟨rfl, hC3⟩
        replace HC0 := HC
        clear HC
        replace y0 := hC3.cell y0 id
        replace y1 := hC3.cell y1 id
        replace y2 := hC3.cell y2 id
        replace q0 := hC3.frozen z0 q0 id
        replace q1 := hC3.frozen z1 q1 id
        replace q2 := hC3.frozen z2 q2 id
        replace q3 := hC3.frozen z3 q3 id
        replace q4 := hC3.frozen z4 q4 id
        replace q5 := hC3.frozen z5 q5 id
        replace z0 := hC3.cell z0 id
        replace z1 := hC3.cell z1 id
        replace z2 := hC3.cell z2 id
        replace z3 := hC3.cell z3 id
        replace z4 := hC3.cell z4 id
        replace z5 := hC3.cell z5 id
        have HC := Lib.hid (HC0.out.tr hC3)
        clear hC3
        obtain ⟨⟨g0, g1, g2, g3, g4, g5⟩, hg⟩ := set6_cells (.int .i64 f) (.int .i64 k) (.slice sa s.length cs) (.slice ae e.length ce) (.int .i64 (manyN s)) (.int .i64 (longN s)) z0 z1 z2 z3 z4 z5
        have HG := Lib.hid hg
        clear hg
        go_wp2
        simp [bodyPost, results, Try.results58, go_sem, g0, g1, g2, g3, g4, g5]
        exact ⟨_, by rw [HR.out]; rfl, fun _ => rfl, fun h => absurd HR.out h, HC.out.trans HG.out (fun _ _ h => h) (fun i hi h => by omega)⟩
end Go.Proofs.Ytjmlekdgipinfaa
