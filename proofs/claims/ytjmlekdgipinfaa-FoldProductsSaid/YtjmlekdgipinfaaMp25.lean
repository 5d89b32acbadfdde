/- fold: a table of rows. -/
import Derived.Test.YtjmlekdgipinfaaMp24
import Derived.Deep.RegionHeld3
namespace Go.Proofs.Ytjmlekdgipinfaa
open Go.RowKit Go.Shelf

def tbl (f k many long : Int) (vs ve : Value) : Value := .agg #[.int .i64 f, .int .i64 k, vs, ve, .int .i64 many, .int .i64 long]
def noT : Value := tbl 0 0 0 0 (.slice none 0 0) (.slice none 0 0)
theorem set6_cells {w : World} {g : Nat} {z0 z1 z2 z3 z4 z5 : Value} (a b c d e f : Value) (h0 : w.cell? ⟨g, 0, none⟩ = some z0) (h1 : w.cell? ⟨g, 1, none⟩ = some z1) (h2 : w.cell? ⟨g, 2, none⟩ = some z2) (h3 : w.cell? ⟨g, 3, none⟩ = some z3) (h4 : w.cell? ⟨g, 4, none⟩ = some z4) (h5 : w.cell? ⟨g, 5, none⟩ = some z5) :
    let W := (((((w.setCell ⟨g, 0, none⟩ a).setCell ⟨g, 1, none⟩ b).setCell ⟨g, 2, none⟩ c).setCell ⟨g, 3, none⟩ d).setCell ⟨g, 4, none⟩ e).setCell ⟨g, 5, none⟩ f
    (W.cell? ⟨g, 0, none⟩ = some a ∧ W.cell? ⟨g, 1, none⟩ = some b ∧ W.cell? ⟨g, 2, none⟩ = some c ∧ W.cell? ⟨g, 3, none⟩ = some d ∧ W.cell? ⟨g, 4, none⟩ = some e ∧ W.cell? ⟨g, 5, none⟩ = some f) ∧ Chg (fun q => q = g) w W := by
  have o : ∀ {w : World} {i j : Nat} {u v : Value}, i ≠ j → w.cell? ⟨g, i, none⟩ = some v → (w.setCell ⟨g, j, none⟩ u).cell? ⟨g, i, none⟩ = some v := fun hne h => (World.cell?_setCell_other _ _ _ _ (fun e => hne (by cases e; rfl))).trans h
  have s : ∀ {w : World} {i : Nat} {u z : Value}, w.cell? ⟨g, i, none⟩ = some z → (w.setCell ⟨g, i, none⟩ u).cell? ⟨g, i, none⟩ = some u := fun h => World.cell?_setCell_same' _ _ _ (by rw [h]; rfl)
  refine ⟨⟨?_, ?_, ?_, ?_, ?_, ?_⟩, ?_⟩
  · exact o (by decide) (o (by decide) (o (by decide) (o (by decide) (o (by decide) (s h0)))))
  · exact o (by decide) (o (by decide) (o (by decide) (o (by decide) (s (o (by decide) h1)))))
  · exact o (by decide) (o (by decide) (o (by decide) (s (o (by decide) (o (by decide) h2)))))
  · exact o (by decide) (o (by decide) (s (o (by decide) (o (by decide) (o (by decide) h3)))))
  · exact o (by decide) (s (o (by decide) (o (by decide) (o (by decide) (o (by decide) h4)))))
  · exact s (o (by decide) (o (by decide) (o (by decide) (o (by decide) (o (by decide) h5)))))
  · have t : ∀ {a b : World} {i : Nat} {u : Value}, Chg (fun q => q = g) a b → Chg (fun q => q = g) a (b.setCell ⟨g, i, none⟩ u) := fun h => h.setCell (.inl rfl) _
    exact t (t (t (t (t (t (Chg.refl _ _))))))
def GaveT (w : World) (f : Int) (A : Ar) (vs ve : Value) (e : Ending) (w' : World) : Prop := ∃ tv, e = .returned (.tuple #[tv, .int .i64 (fineE f A)]) ∧ (fineE f A = 0 → tv = tbl f A.k (manyN A.s) (longN A.s) vs ve) ∧ (fineE f A ≠ 0 → tv = noT) ∧ Chg (fun _ => False) w w'
set_option maxRecDepth 100000 in
set_option maxHeartbeats 2000000 in
theorem begun_any (f : Int) (vs ve : Value) (A : Ar) (w : World) (hs : Ls w vs A.s) (he : Ls w ve A.e) (hl : A.e.length ≤ 1000000) : Calls Try.prog 58 #[.int .i64 f, .agg #[.int .i64 A.k, vs, ve]] w (GaveT w f A vs ve) := by
  have hA : Ara w (.agg #[.int .i64 A.k, vs, ve]) A := ⟨_, _, rfl, hs, he⟩
  obtain ⟨sa, cs, rfl, _⟩ := hs.form
  obtain ⟨ae, ce, rfl, _⟩ := he.form
  obtain ⟨k, s, e⟩ := A
  simp only at hs he hl hA ⊢
  have hC0 := ((Chg.refl (fun _ => False) w).alloc (.cells #[.int .i64 k, .slice sa s.length cs, .slice ae e.length ce] 25)).alloc (.cells #[.int .i64 0, .int .i64 0, .slice none 0 0, .slice none 0 0, .int .i64 0, .int .i64 0] 86)
  have hK1 := (Chg.refl (fun _ => False) (w.alloc (.cells #[.int .i64 k, .slice sa s.length cs, .slice ae e.length ce] 25))).alloc (.cells #[.int .i64 0, .int .i64 0, .slice none 0 0, .slice none 0 0, .int .i64 0, .int .i64 0] 86)
  obtain ⟨y0, y1, y2⟩ := cell_two w (.int .i64 k) (.slice sa s.length cs) (.slice ae e.length ce) 25
  replace y0 := hK1.cell y0 id
  replace y1 := hK1.cell y1 id
  replace y2 := hK1.cell y2 id
  have z0 := new_cell (w.alloc (.cells #[.int .i64 k, .slice sa s.length cs, .slice ae e.length ce] 25)) #[.int .i64 0, .int .i64 0, .slice none 0 0, .slice none 0 0, .int .i64 0, .int .i64 0] 86 (i := 0) (v := .int .i64 0) rfl
  have z1 := new_cell (w.alloc (.cells #[.int .i64 k, .slice sa s.length cs, .slice ae e.length ce] 25)) #[.int .i64 0, .int .i64 0, .slice none 0 0, .slice none 0 0, .int .i64 0, .int .i64 0] 86 (i := 1) (v := .int .i64 0) rfl
  have z2 := new_cell (w.alloc (.cells #[.int .i64 k, .slice sa s.length cs, .slice ae e.length ce] 25)) #[.int .i64 0, .int .i64 0, .slice none 0 0, .slice none 0 0, .int .i64 0, .int .i64 0] 86 (i := 2) (v := .slice none 0 0) rfl
  have z3 := new_cell (w.alloc (.cells #[.int .i64 k, .slice sa s.length cs, .slice ae e.length ce] 25)) #[.int .i64 0, .int .i64 0, .slice none 0 0, .slice none 0 0, .int .i64 0, .int .i64 0] 86 (i := 3) (v := .slice none 0 0) rfl
  have z4 := new_cell (w.alloc (.cells #[.int .i64 k, .slice sa s.length cs, .slice ae e.length ce] 25)) #[.int .i64 0, .int .i64 0, .slice none 0 0, .slice none 0 0, .int .i64 0, .int .i64 0] 86 (i := 4) (v := .int .i64 0) rfl
  have z5 := new_cell (w.alloc (.cells #[.int .i64 k, .slice sa s.length cs, .slice ae e.length ce] 25)) #[.int .i64 0, .int .i64 0, .slice none 0 0, .slice none 0 0, .int .i64 0, .int .i64 0] 86 (i := 5) (v := .int .i64 0) rfl
  have q0 := new_frozen (w.alloc (.cells #[.int .i64 k, .slice sa s.length cs, .slice ae e.length ce] 25)) #[.int .i64 0, .int .i64 0, .slice none 0 0, .slice none 0 0, .int .i64 0, .int .i64 0] 86 0
  have q1 := new_frozen (w.alloc (.cells #[.int .i64 k, .slice sa s.length cs, .slice ae e.length ce] 25)) #[.int .i64 0, .int .i64 0, .slice none 0 0, .slice none 0 0, .int .i64 0, .int .i64 0] 86 1
  have q2 := new_frozen (w.alloc (.cells #[.int .i64 k, .slice sa s.length cs, .slice ae e.length ce] 25)) #[.int .i64 0, .int .i64 0, .slice none 0 0, .slice none 0 0, .int .i64 0, .int .i64 0] 86 2
  have q3 := new_frozen (w.alloc (.cells #[.int .i64 k, .slice sa s.length cs, .slice ae e.length ce] 25)) #[.int .i64 0, .int .i64 0, .slice none 0 0, .slice none 0 0, .int .i64 0, .int .i64 0] 86 3
  have q4 := new_frozen (w.alloc (.cells #[.int .i64 k, .slice sa s.length cs, .slice ae e.length ce] 25)) #[.int .i64 0, .int .i64 0, .slice none 0 0, .slice none 0 0, .int .i64 0, .int .i64 0] 86 4
  have q5 := new_frozen (w.alloc (.cells #[.int .i64 k, .slice sa s.length cs, .slice ae e.length ce] 25)) #[.int .i64 0, .int .i64 0, .slice none 0 0, .slice none 0 0, .int .i64 0, .int .i64 0] 86 5
  rw [World.size_alloc] at z0 z1 z2 z3 z4 z5 q0 q1 q2 q3 q4 q5
  have hbi := binary_any f
  unfold SaidB at hbi
  have hck := check_any _ ⟨k, s, e⟩ _ (hA.fr hC0) hl
  unfold GaveI at hck
  have hrw := fun w' (h : Chg (fun _ => False) w w') => rows_any _ s w' (hs.fr h)
  unfold GaveRw at hrw
  have HRW := Lib.hid hrw
  have HC0 := Lib.hid hC0
  clear hs he hA hK1 hrw
  cases hb : binB f with
  | false =>
    have HR := Lib.hid (show fineE f ⟨k, s, e⟩ = 2 by unfold fineE; rw [hb]; rfl)
    rw [hb] at hbi
    have HC := Lib.hid hC0
    clear hb hck hC0
    go_enter Try.func58, Try.ntmps58
    go_wp2_with (go_at_call 19; refine (hbi _).mono ?_; rintro e9 w1 ⟨rfl, rfl⟩)
    go_wp2
    simp [bodyPost, results, Try.results58, go_sem, z0, z1, z2, z3, z4, z5]
    exact ⟨_, by rw [HR.out]; rfl, fun h => absurd (HR.out.symm.trans h) (by decide), fun _ => rfl, HC.out⟩
  | true =>
    rw [hb] at hbi
    cases hca : chkB ⟨k, s, e⟩ with
    | false =>
      have HR := Lib.hid (show fineE f ⟨k, s, e⟩ = 110 by unfold fineE; rw [hb, hca]; rfl)
      rw [show chkE ⟨k, s, e⟩ = 110 by unfold chkE; rw [hca]; rfl] at hck
      clear hb hC0 hca
      go_enter Try.func58, Try.ntmps58
      go_wp2_with (go_at_call 19; refine (hbi _).mono ?_; rintro e9 w1 ⟨rfl, rfl⟩)
      refine hck.mono ?_
      clear hck
      rintro e9 w2 ⟨rfl, hC2⟩
      replace y0 := hC2.cell y0 id
      replace y1 := hC2.cell y1 id
      replace y2 := hC2.cell y2 id
      replace q0 := hC2.frozen z0 q0 id
      replace q1 := hC2.frozen z1 q1 id
      replace q2 := hC2.frozen z2 q2 id
      replace q3 := hC2.frozen z3 q3 id
      replace q4 := hC2.frozen z4 q4 id
      replace q5 := hC2.frozen z5 q5 id
      replace z0 := hC2.cell z0 id
      replace z1 := hC2.cell z1 id
      replace z2 := hC2.cell z2 id
      replace z3 := hC2.cell z3 id
      replace z4 := hC2.cell z4 id
      replace z5 := hC2.cell z5 id
      have HC := Lib.hid (HC0.out.tr hC2)
      clear hC2
      obtain ⟨⟨g0, g1, g2, g3, g4, g5⟩, hg⟩ := set6_cells (.int .i64 0) (.int .i64 0) (.slice none 0 0) (.slice none 0 0) (.int .i64 0) (.int .i64 0) z0 z1 z2 z3 z4 z5
      have HG := Lib.hid hg
      clear hg
      go_wp2
      simp [bodyPost, results, Try.results58, go_sem, g0, g1, g2, g3, g4, g5]
      exact ⟨_, by rw [HR.out]; rfl, fun h => absurd (HR.out.symm.trans h) (by decide), fun _ => rfl, HC.out.trans HG.out (fun _ _ h => h) (fun i hi h => by omega)⟩
    | true =>
      rw [show chkE ⟨k, s, e⟩ = 0 by unfold chkE; rw [hca]; rfl] at hck
      by_cases hk : k = 2
      · have HR := Lib.hid (show fineE f ⟨k, s, e⟩ = 5 by unfold fineE; rw [hb, hca, if_pos rfl, if_pos rfl, if_pos hk])
        have b1 : (k == 2) = true := beq_iff_eq.2 hk
        clear hb hC0 hca hk
        go_enter Try.func58, Try.ntmps58
        go_wp2_with (go_at_call 19; refine (hbi _).mono ?_; rintro e9 w1 ⟨rfl, rfl⟩)
        refine hck.mono ?_
        clear hck
        rintro e9 w2 ⟨rfl, hC2⟩
        replace y0 := hC2.cell y0 id
        replace y1 := hC2.cell y1 id
        replace y2 := hC2.cell y2 id
        replace q0 := hC2.frozen z0 q0 id
        replace q1 := hC2.frozen z1 q1 id
        replace q2 := hC2.frozen z2 q2 id
        replace q3 := hC2.frozen z3 q3 id
        replace q4 := hC2.frozen z4 q4 id
        replace q5 := hC2.frozen z5 q5 id
        replace z0 := hC2.cell z0 id
        replace z1 := hC2.cell z1 id
        replace z2 := hC2.cell z2 id
        replace z3 := hC2.cell z3 id
        replace z4 := hC2.cell z4 id
        replace z5 := hC2.cell z5 id
        have HC := Lib.hid (HC0.out.tr hC2)
        clear hC2
        obtain ⟨⟨g0, g1, g2, g3, g4, g5⟩, hg⟩ := set6_cells (.int .i64 0) (.int .i64 0) (.slice none 0 0) (.slice none 0 0) (.int .i64 0) (.int .i64 0) z0 z1 z2 z3 z4 z5
        have HG := Lib.hid hg
        clear hg
        go_wp2
        simp [bodyPost, results, Try.results58, go_sem, g0, g1, g2, g3, g4, g5]
        exact ⟨_, by rw [HR.out]; rfl, fun h => absurd (HR.out.symm.trans h) (by decide), fun _ => rfl, HC.out.trans HG.out (fun _ _ h => h) (fun i hi h => by omega)⟩
      · have HR := Lib.hid (show fineE f ⟨k, s, e⟩ = 0 by unfold fineE; rw [hb, hca, if_pos rfl, if_pos rfl, if_neg hk])
        have b1 : (k == 2) = false := beq_eq_false_iff_ne.2 hk
        clear hb hC0 hca hk
        go_enter Try.func58, Try.ntmps58
        go_wp2_with (go_at_call 19; refine (hbi _).mono ?_; rintro e9 w1 ⟨rfl, rfl⟩)
        refine hck.mono ?_
        clear hck
        rintro e9 w2 ⟨rfl, hC2⟩
        replace y0 := hC2.cell y0 id
        replace y1 := hC2.cell y1 id
        replace y2 := hC2.cell y2 id
        replace q0 := hC2.frozen z0 q0 id
        replace q1 := hC2.frozen z1 q1 id
        replace q2 := hC2.frozen z2 q2 id
        replace q3 := hC2.frozen z3 q3 id
        replace q4 := hC2.frozen z4 q4 id
        replace q5 := hC2.frozen z5 q5 id
        replace z0 := hC2.cell z0 id
        replace z1 := hC2.cell z1 id
        replace z2 := hC2.cell z2 id
        replace z3 := hC2.cell z3 id
        replace z4 := hC2.cell z4 id
        replace z5 := hC2.cell z5 id
        have HC := Lib.hid (HC0.out.tr hC2)
        clear hC2
        have h1 := HRW.out w2 HC.out
        go_wp2_with fail
        refine h1.mono ?_
        clear h1
        rintro e9 w3 ⟨rfl, hC3⟩
        replace HC0 := HC
        clear HC
        replace y0 := hC3.cell y0 id
        replace y1 := hC3.cell y1 id
        replace y2 := hC3.cell y2 id
        replace q0 := hC3.frozen z0 q0 id
        replace q1 := hC3.frozen z1 q1 id
        replace q2 := hC3.frozen z2 q2 id
        replace q3 := hC3.frozen z3 q3 id
        replace q4 := hC3.frozen z4 q4 id
        replace q5 := hC3.frozen z5 q5 id
        replace z0 := hC3.cell z0 id
        replace z1 := hC3.cell z1 id
        replace z2 := hC3.cell z2 id
        replace z3 := hC3.cell z3 id
        replace z4 := hC3.cell z4 id
        replace z5 := hC3.cell z5 id
        have HC := Lib.hid (HC0.out.tr hC3)
        clear hC3
        obtain ⟨⟨g0, g1, g2, g3, g4, g5⟩, hg⟩ := set6_cells (.int .i64 f) (.int .i64 k) (.slice sa s.length cs) (.slice ae e.length ce) (.int .i64 (manyN s)) (.int .i64 (longN s)) z0 z1 z2 z3 z4 z5
        have HG := Lib.hid hg
        clear hg
        go_wp2
        simp [bodyPost, results, Try.results58, go_sem, g0, g1, g2, g3, g4, g5]
        exact ⟨_, by rw [HR.out]; rfl, fun _ => rfl, fun h => absurd HR.out h, HC.out.trans HG.out (fun _ _ h => h) (fun i hi h => by omega)⟩
end Go.Proofs.Ytjmlekdgipinfaa
/- fold: a table's rows, and their beginnings. -/
namespace Go.Proofs.Ytjmlekdgipinfaa
open Go.RowKit Go.Shelf

theorem chg_drewD {w w' : World} (h : Chg (fun _ => False) w w') : Chg (fun _ => False) w w'.drew := h.drew
theorem fsizeOf_long (w : World) : (sizeOf 2).run Try.prog w = .ok 1 w := by kernel_rfl
theorem Ls.cut {w : World} {v : Value} {xs : List Int} (h : Ls w v xs) (l hi n : Nat) (h1 : l ≤ hi) (h2 : hi ≤ xs.length) (hn : hi - l = n) : ∃ ao c, Ls w (.slice ao n c) ((xs.take hi).drop l) ∧ (∀ W, (Instr.slice 23 v (some (.int .i64 l)) (some (.int .i64 hi)) none).run Try.prog W = .ok (.slice ao n c) W) ∧
    (l = 0 → ∀ W, (Instr.slice 23 v none (some (.int .i64 hi)) none).run Try.prog W = .ok (.slice ao n c) W) := by
  obtain ⟨ao, c, hS, _, h3, _, h5⟩ := Sl.slice (P := Try.prog) 23 2 Try.underlying23 fsizeOf_long h l hi h1 (by rw [List.length_map]; exact h2)
  rw [hn] at hS h3 h5
  refine ⟨ao, c, ?_, h3, h5⟩
  unfold Ls
  rw [List.map_drop, List.map_take]
  exact hS
def rowL (xs : List Int) (i L : Nat) : List Int := (xs.take ((i + 1) * L)).drop (i * L)
theorem rowL_length {xs : List Int} {i L : Nat} (h : (i + 1) * L ≤ xs.length) : (rowL xs i L).length = L := by
  unfold rowL
  rw [List.length_drop, List.length_take, Nat.min_eq_left h, Nat.add_mul]; omega
def GaveSl (w : World) (n : Nat) (xs : List Int) (e : Ending) (w' : World) : Prop := ∃ ao c, e = .returned (.slice ao n c) ∧ Ls w' (.slice ao n c) xs ∧ Chg (fun _ => False) w w'
set_option maxRecDepth 100000 in
set_option maxHeartbeats 1000000 in
theorem trow_any (f k many : Int) (L i : Nat) (vs ve : Value) (s xs : List Int) (w : World) (hs : Ls w vs s) (he : Ls w ve xs) (hl : xs.length ≤ 1000000) (hi : (i + 1) * L ≤ xs.length) (hb : i ≤ 1000000 ∧ L ≤ 1000000) : Calls Try.prog 99 #[tbl f k many L vs ve, .int .i64 i] w (GaveSl w L (rowL xs i L)) := by
  obtain ⟨ao, c, hS, hrun, _⟩ := he.cut (i * L) ((i + 1) * L) L (Nat.mul_le_mul_right _ (Nat.le_succ _)) hi (by rw [Nat.add_mul]; omega)
  obtain ⟨sa, cs, rfl, _⟩ := hs.form
  obtain ⟨ea, ce, rfl, _⟩ := he.form
  have m1 : ((i : Int)) * (L : Int) = ((i * L : Nat) : Int) := (Int.natCast_mul _ _).symm
  have m2 : (((i + 1 : Nat) : Int)) * (L : Int) = (((i + 1) * L : Nat) : Int) := (Int.natCast_mul _ _).symm
  have le1 : i * L ≤ (i + 1) * L := Nat.mul_le_mul_right _ (Nat.le_succ _)
  obtain ⟨lo, hlo⟩ : ∃ lo, i * L = lo := ⟨_, rfl⟩
  obtain ⟨hj, hhj⟩ : ∃ hj, (i + 1) * L = hj := ⟨_, rfl⟩
  obtain ⟨i1, hi1⟩ : ∃ i1, i + 1 = i1 := ⟨_, rfl⟩
  rw [hlo] at m1 hrun le1
  rw [hhj] at m2 hi hrun le1
  rw [hi1] at m2
  have k1 : IntKind.i64.wrap ((i : Int) * (L : Int)) = (lo : Int) := by rw [m1, IntWalk.i64_in _ (by omega)]
  have k2 : IntKind.i64.wrap ((i : Int) + 1) = (i1 : Int) := by rw [IntWalk.i64_in _ (by omega)]; omega
  have k3 : IntKind.i64.wrap ((i1 : Int) * (L : Int)) = (hj : Int) := by rw [m2, IntWalk.i64_in _ (by omega)]
  have HS := Lib.hid hS
  unfold tbl
  clear hS hs he m1 m2 le1 hlo hhj hi1 hi hb hl
  go_enter Try.func99, Try.ntmps99
  go_wp2
  go_ret
  exact ⟨ao, c, rfl, HS.out.fr ((Chg.refl _ _).alloc _), (Chg.refl _ _).alloc _⟩
/-- A row's beginning, folded. -/
def partP (f : Int) (xs : List Int) (L n : Nat) : Int × Int := rwP f ((rowL xs (n / L) L).take (n % L + 1))
set_option maxRecDepth 100000 in
set_option maxHeartbeats 2000000 in
theorem part_any (f k many : Int) (L n : Nat) (vs ve : Value) (s xs : List Int) (w : World) (hs : Ls w vs s) (he : Ls w ve xs) (hl : xs.length ≤ 1000000) (hL : 0 < L) (hn : (n / L + 1) * L ≤ xs.length) (hI : ∀ x ∈ xs, In x) : Calls Try.prog 62 #[tbl f k many L vs ve, .int .i64 n] w (GaveP w (partP f xs L n).1 (partP f xs L n).2) := by
  obtain ⟨q, hq⟩ : ∃ q, n / L = q := ⟨_, rfl⟩
  obtain ⟨m, hm⟩ : ∃ m, n % L = m := ⟨_, rfl⟩
  have hmL : m < L := by rw [← hm]; exact Nat.mod_lt _ hL
  unfold partP
  rw [hq] at hn ⊢
  rw [hm]
  have hqb : q ≤ 1000000 ∧ L ≤ 1000000 := by
    have h1 : q * 1 ≤ (q + 1) * L := Nat.mul_le_mul (Nat.le_succ _) hL
    have h2 : 1 * L ≤ (q + 1) * L := Nat.mul_le_mul_right _ (by omega)
    omega
  have hrl := rowL_length hn
  have hri : ∀ x ∈ rowL xs q L, In x := fun x hx => hI x (List.mem_of_mem_take (List.mem_of_mem_drop hx))
  obtain ⟨sa, cs, rfl, _⟩ := hs.form
  obtain ⟨ea, ce, rfl, _⟩ := he.form
  have H1 := Lib.hid (show ∀ w', Chg (fun _ => False) w w' → Calls Try.prog 99 #[tbl f k many L (.slice sa s.length cs) (.slice ea xs.length ce), .int .i64 q] w' (GaveSl w' L (rowL xs q L)) from fun w' h => trow_any f k many L q _ _ s xs w' (hs.fr h) (he.fr h) hl hn hqb)
  have H2 := Lib.hid (show ∀ (w' : World) (v : Value), Ls w' v ((rowL xs q L).take (m + 1)) → Calls Try.prog 22 #[.int .i64 f, v] w' (GaveP w' (rwP f ((rowL xs q L).take (m + 1))).1 (rwP f ((rowL xs q L).take (m + 1))).2) from fun w' v h => row_any f v _ w' h (by rw [List.length_take]; omega) (fun x hx => hri x (List.mem_of_mem_take hx)))
  have HCUT := Lib.hid (show ∀ (w' : World) (v : Value), Ls w' v (rowL xs q L) → ∃ ao c, Ls w' (.slice ao (m + 1) c) ((rowL xs q L).take (m + 1)) ∧ (∀ W, (Instr.slice 23 v none (some (.int .i64 ((m + 1 : Nat) : Int))) none).run Try.prog W = .ok (.slice ao (m + 1) c) W) from fun w' v h => by
    obtain ⟨ao, c, h1, _, h3⟩ := h.cut 0 (m + 1) (m + 1) (Nat.zero_le _) (by omega) (by omega)
    rw [List.drop_zero] at h1
    exact ⟨ao, c, h1, h3 rfl⟩)
  have hdq : Int.tdiv (n : Int) (L : Int) = (q : Int) := by rw [Int.tdiv_eq_ediv_of_nonneg (by omega), ← hq]; exact (Int.natCast_ediv _ _).symm
  have hmq : Int.tmod (n : Int) (L : Int) = (m : Int) := by rw [Int.tmod_eq_emod_of_nonneg (by omega), ← hm]; exact (Int.natCast_emod _ _).symm
  have hne : ¬ (L : Int) = 0 := by omega
  have hne2 : ¬ L = 0 := by omega
  have hnq : n ≤ 1000000 * 1000000 + 1000000 := by
    have h1 := Nat.div_add_mod n L
    rw [hq, hm] at h1
    have h2 : L * q ≤ 1000000 * 1000000 := Nat.mul_le_mul hqb.2 hqb.1
    omega
  have k1 : IntKind.i64.wrap (q : Int) = (q : Int) := IntWalk.i64_in _ (by omega)
  have k2 : IntKind.i64.wrap (m : Int) = (m : Int) := IntWalk.i64_in _ (by omega)
  obtain ⟨m1, hm1⟩ : ∃ m1, m + 1 = m1 := ⟨_, rfl⟩
  have k3 : IntKind.i64.wrap ((m : Int) + 1) = (m1 : Int) := by rw [IntWalk.i64_in _ (by omega)]; omega
  rw [hm1] at H2 HCUT ⊢
  generalize rwP f ((rowL xs q L).take m1) = r at *
  unfold GaveP at H2
  have hC0 := (Chg.refl (fun _ => False) w).alloc (.cells #[.int .i64 f, .int .i64 k, .slice sa s.length cs, .slice ea xs.length ce, .int .i64 many, .int .i64 L] 86)
  have KP := Lib.hid (show ∀ w', Chg (fun _ => False) (w.alloc (.cells #[.int .i64 f, .int .i64 k, .slice sa s.length cs, .slice ea xs.length ce, .int .i64 many, .int .i64 L] 86)) w' → (Chg (fun _ => False) (w.alloc (.cells #[.int .i64 f, .int .i64 k, .slice sa s.length cs, .slice ea xs.length ce, .int .i64 many, .int .i64 L] 86)) w' ∧ w'.cell? ⟨w.heap.size, 0, none⟩ = some (.int .i64 f) ∧ w'.cell? ⟨w.heap.size, 1, none⟩ = some (.int .i64 k) ∧ w'.cell? ⟨w.heap.size, 2, none⟩ = some (.slice sa s.length cs) ∧ w'.cell? ⟨w.heap.size, 3, none⟩ = some (.slice ea xs.length ce) ∧ w'.cell? ⟨w.heap.size, 4, none⟩ = some (.int .i64 many) ∧ w'.cell? ⟨w.heap.size, 5, none⟩ = some (.int .i64 L)) from fun w' h =>
    ⟨h, h.cell (new_cell w _ _ rfl) id, h.cell (new_cell w _ _ rfl) id, h.cell (new_cell w _ _ rfl) id, h.cell (new_cell w _ _ rfl) id, h.cell (new_cell w _ _ rfl) id, h.cell (new_cell w _ _ rfl) id⟩)
  have HC0 := Lib.hid hC0
  clear hq hm hmL hn hqb hrl hri hs he hl hI hL hnq hm1 hC0
  unfold tbl
  unfold tbl at H1
  go_enter Try.func62, Try.ntmps62
  go_wp2
  go_region_held3 (fun w' => Chg (fun _ => False) (w.alloc (.cells #[.int .i64 f, .int .i64 k, .slice sa s.length cs, .slice ea xs.length ce, .int .i64 many, .int .i64 L] 86)) w' ∧ w'.cell? ⟨w.heap.size, 0, none⟩ = some (.int .i64 f) ∧ w'.cell? ⟨w.heap.size, 1, none⟩ = some (.int .i64 k) ∧ w'.cell? ⟨w.heap.size, 2, none⟩ = some (.slice sa s.length cs) ∧ w'.cell? ⟨w.heap.size, 3, none⟩ = some (.slice ea xs.length ce) ∧ w'.cell? ⟨w.heap.size, 4, none⟩ = some (.int .i64 many) ∧ w'.cell? ⟨w.heap.size, 5, none⟩ = some (.int .i64 L)) ((refine KP.out _ ?_; repeat (first | (with_reducible exact Chg.refl _ _) | (with_reducible refine chg_drewD ?_) | (with_reducible refine Chg.tr ?_ hC6) | (with_reducible refine Chg.tr ?_ hC5)))) (first
    | (go_at_call 99
       (with_reducible refine (H1.out _ ?_).mono ?_)
       · exact HC0.out.drew
       rintro e9 w5 ⟨a5, c5, rfl, hl5, hC5⟩
       obtain ⟨a6, c6, hl6, hrun6⟩ := HCUT.out _ _ hl5)
    | (go_at_call 22
       (with_reducible refine (H2.out _ _ ?_).mono ?_)
       · exact hl6
       rintro e9 w6 ⟨rfl, hC6⟩))
  all_goals
    rename_i hHd
    have HF := Lib.hid (HC0.out.tr hHd.1)
    clear hHd
    go_wp2
    go_ret2
    exact ⟨rfl, HF.out⟩
end Go.Proofs.Ytjmlekdgipinfaa
