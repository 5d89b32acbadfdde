/- turn: views, and the ways on which rows are turned. -/
import Derived.Test.YtjmlekdgipinfaaMt8
import Derived.Laws.EntriesVeiled
namespace Go.Proofs.Ytjmlekdgipinfaa
open Go.RowKit Go.Shelf

/-- How long a row is. -/
def rowN (s : List Int) : Int := s.getLast?.getD 1
def tabG (n : Nat) (f : Nat → Int × Int) : List (Int × Int) := (List.range n).map f
theorem tabG_length (n : Nat) (f : Nat → Int × Int) : (tabG n f).length = n := by simp [tabG]
theorem tabG_at {n : Nat} {f : Nat → Int × Int} {i : Nat} {x : Int × Int} (h : (tabG n f)[i]? = some x) : i < n ∧ x = f i := by
  have hi := (List.getElem?_eq_some_iff.1 h).1
  rw [tabG_length] at hi
  refine ⟨hi, ?_⟩
  unfold tabG at h
  rw [List.getElem?_map, List.getElem?_range hi] at h
  exact (Option.some.inj h).symm
theorem tabG_congr {n : Nat} {f g : Nat → Int × Int} (h : ∀ i, i < n → f i = g i) : tabG n f = tabG n g :=
  List.map_congr_left (fun i hi => h i (List.mem_range.1 hi))
def cnt (s : List Int) : Nat := (cntN s).toNat
theorem cnt_int (s : List Int) : (cnt s : Int) = cntN s := by
  unfold cnt
  have := cntN_bd s
  omega
def GaveSeen (w : World) (s : List Int) (e : Ending) (w' : World) : Prop := ∃ v', e = .returned (.tuple #[.agg #[v'], .int .i64 (cntE s)]) ∧ Own w' w.heap.size 3 v' s ∧ Chg (fun _ => False) w w'
theorem set1_cell {w : World} {g : Nat} {z0 : Value} (a : Value) (h0 : w.cell? ⟨g, 0, none⟩ = some z0) : (w.setCell ⟨g, 0, none⟩ a).cell? ⟨g, 0, none⟩ = some a := World.cell?_setCell_same' _ _ _ (by rw [h0]; rfl)
theorem set2_cells {w : World} {g : Nat} {z0 z1 : Value} (a b : Value) (h0 : w.cell? ⟨g, 0, none⟩ = some z0) (h1 : w.cell? ⟨g, 1, none⟩ = some z1) :
    ((w.setCell ⟨g, 0, none⟩ a).setCell ⟨g, 1, none⟩ b).cell? ⟨g, 0, none⟩ = some a ∧ ((w.setCell ⟨g, 0, none⟩ a).setCell ⟨g, 1, none⟩ b).cell? ⟨g, 1, none⟩ = some b := by
  have e0 : (w.setCell ⟨g, 0, none⟩ a).cell? ⟨g, 0, none⟩ = some a := World.cell?_setCell_same' _ _ _ (by rw [h0]; rfl)
  exact ⟨by rw [World.cell?_setCell_other _ _ _ _ (by simp), e0], World.cell?_setCell_same' _ _ _ (by rw [World.cell?_setCell_other _ _ _ _ (by simp), h1]; rfl)⟩
set_option maxHeartbeats 400000 in
theorem seen_any (v : Value) (s : List Int) (w : World) (hS : Ls w v s) (hl : s.length ≤ 1000000) : Calls Try.prog 137 #[v] w (GaveSeen w s) := by
  obtain ⟨ao, c, rfl, _⟩ := hS.form
  have hC0 := (Chg.refl (fun _ => False) w).alloc (.cells #[.slice none 0 0] 140)
  have z0 := new_cell w #[.slice none 0 0] 140 (i := 0) rfl
  have f0 := new_frozen w #[.slice none 0 0] 140 0
  have h1 := count_any _ s _ (hS.fr hC0)
  have h2 := cloneI_any _ s _ (hS.fr hC0) hl
  unfold GaveC at h1
  obtain ⟨E, hE⟩ : ∃ E, cntE s = E := ⟨_, rfl⟩
  generalize cntN s = C at *
  rw [hE] at h1
  have HE := Lib.hid hE
  clear hS hE
  go_enter Try.func137, Try.ntmps137
  go_wp2_with fail
  refine h1.mono ?_
  clear h1
  rintro e9 w1 ⟨rfl, rfl⟩
  go_wp2_with fail
  refine h2.mono ?_
  clear h2
  rintro e9 w2 ⟨v2, rfl, ho, hC2⟩
  obtain ⟨a2, c2, rfl⟩ := own_name ho
  have y0 := hC2.cell z0 id
  have x0 := hC2.frozen z0 f0 id
  have g0 := set1_cell (.slice a2 s.length c2) y0
  clear z0 f0
  go_wp2
  simp [bodyPost, results, Try.results137, go_sem, g0]
  unfold GaveSeen
  rw [HE.out]
  exact ⟨_, rfl, (own_set ho (a := ⟨w.heap.size, 0, none⟩) (by simp) _).mono (by simp), (hC0.tr hC2).setCell (p := ⟨w.heap.size, 0, none⟩) (.inr (Nat.le_refl _)) _⟩
theorem rowN_last {s : List Int} (h : s ≠ []) : s.length - 1 < s.length ∧ ∀ h2, s[s.length - 1]'h2 = rowN s := by
  have h0 : 0 < s.length := List.length_pos_iff.2 h
  refine ⟨by omega, fun h2 => ?_⟩
  unfold rowN
  rw [List.getLast?_eq_getElem?, List.getElem?_eq_getElem h2]
  rfl
/-- What a row's place goes to. -/
def ToAt (w : World) (D : Nat → Prop) (gf : Nat) (lb : Array Value) (m : Int) (n : Nat) (F : Nat → Int) : Prop :=
  (∀ args w, (callFunc gf args).run Try.prog w = .ok (.enter gf args) w) ∧ ∀ i, i < n → ∀ w', OldC D w w' → Calls Try.prog gf (#[.int .i64 ((i : Int) / m), .int .i64 ((i : Int) % m)] ++ lb) w' (GaveI w' (F i))
theorem ToAt.old {w w' : World} {D : Nat → Prop} {gf : Nat} {lb : Array Value} {m : Int} {n : Nat} {F : Nat → Int} (h : ToAt w D gf lb m n F) (hC : OldC D w w') : ToAt w' D gf lb m n F := ⟨h.1, fun i hi w2 h2 => h.2 i hi w2 (hC.trans h2)⟩
end Go.Proofs.Ytjmlekdgipinfaa
/- turn: along, reverse, told. -/
namespace Go.Proofs.Ytjmlekdgipinfaa
open Go.RowKit Go.Shelf

theorem ediv_lt_cnt {s : List Int} {i : Nat} (hsh : shB s = true) (hi : i < cnt s) : 0 < rowN s ∧ rowN s ≤ 4096 ∧ (i : Int) ≤ 4096 := by
  have h1 := cnt_int s
  have h2 := cntN_bd s
  rw [cntN_ok hsh] at h1 h2
  have hs := shB_iff.1 hsh
  have hp := pos_of_prod (s := s) (fun l hl => (hs.2.1 l hl).1) (by omega)
  refine ⟨?_, ?_, by omega⟩
  · unfold rowN
    cases h : s.getLast? with
    | none => decide
    | some a => exact hp a (List.mem_of_getLast? h)
  · unfold rowN
    cases h : s.getLast? with
    | none => decide
    | some a => exact (hs.2.1 a (List.mem_of_getLast? h)).2
def alongG (s : List Int) (F : Nat → Int) : List (Int × Int) := tabG (cnt s) (fun i => (0, (i : Int) / rowN s * rowN s + F i))
end Go.Proofs.Ytjmlekdgipinfaa
/- turn: reverse's way, told. -/
namespace Go.Proofs.Ytjmlekdgipinfaa
open Go.RowKit Go.Shelf

theorem way_form {w : World} {D : Nat → Prop} {v : Value} {W : Wy} (h : WayAt w D v W) : (∃ ao n c gf lb, v = .agg #[.slice ao n c, .func (.func gf) #[] lb]) ∨ v = .agg #[.slice none 0 0, .nilFunc] := by
  rcases h with ⟨_, vs, gf, lb, rfl, hs, _⟩ | ⟨_, _, _, rfl⟩
  · obtain ⟨ao, c, rfl, _⟩ := hs.form
    exact .inl ⟨_, _, _, _, _, rfl⟩
  · exact .inr rfl
theorem way_store {D0 D3 : Nat → Prop} {w w3 : World} {rb x : Nat} {a b : Value} {W : Wy} {n : Int} (hW : WayAt w3 D3 (.agg #[a, b]) W) (hD : ∀ k, D3 k → D0 k ∨ x ≤ k) (hx : w.heap.size ≤ x) (hrb : w.heap.size ≤ rb) (hn : ¬ D3 rb) (hC : Chg (fun _ => False) w w3) (he : n = W.n) :
    GaveWD D0 w W (.returned (.tuple #[.agg #[a, b], .int .i64 n])) ((w3.setCell ⟨rb, 0, none⟩ a).setCell ⟨rb, 1, none⟩ b) := by
  subst he
  exact ⟨_, D3, rfl, hW.old (((Chg.refl _ w3).setCell (p := ⟨rb, 0, none⟩) (.inl hn) a).setCell (p := ⟨rb, 1, none⟩) (.inl hn) b), fun k hk => (hD k hk).imp id (fun h => Nat.le_trans hx h),
    (hC.setCell (p := ⟨rb, 0, none⟩) (.inr hrb) a).setCell (p := ⟨rb, 1, none⟩) (.inr hrb) b⟩
theorem way_no {D0 : Nat → Prop} {w w3 : World} {rb : Nat} {n : Int} (hn : n ≠ 0) (hrb : w.heap.size ≤ rb) (hC : Chg (fun _ => False) w w3) :
    GaveWD D0 w (noW n) (.returned (.tuple #[.agg #[.slice none 0 0, .nilFunc], .int .i64 n])) ((w3.setCell ⟨rb, 0, none⟩ (.slice none 0 0)).setCell ⟨rb, 1, none⟩ .nilFunc) :=
  ⟨_, fun _ => False, rfl, .inr ⟨hn, rfl, rfl, rfl⟩, fun _ h => h.elim, (hC.setCell (p := ⟨rb, 0, none⟩) (.inr hrb) _).setCell (p := ⟨rb, 1, none⟩) (.inr hrb) _⟩
def revF (s : List Int) (i : Nat) : Int := rowN s - 1 - (i : Int) % rowN s
def revG (s : List Int) : List (Int × Int) := alongG s (revF s)
def Blk (v : Value) (q : Nat) : Prop := v.ownBlock = some q
def toldW (s : List Int) (W : Wy) : Wy := if shB s then W else noW 110
set_option maxRecDepth 100000 in
set_option maxHeartbeats 1000000 in
theorem told_any (v : Value) (s : List Int) (gw : Nat) (W : Wy) (w : World) (hS : Ls w v s) (hl : s.length ≤ 1000000) (hn : W.n = 0) (eg : ∀ args w, (callFunc gw args).run Try.prog w = .ok (.enter gw args) w)
    (hw : shB s = true → ∀ v' w', Ls w' v' s → (∀ q, Blk v' q → q < w'.heap.size) → Calls Try.prog gw #[.agg #[v']] w' (GaveWD (Blk v') w' W)) : Calls Try.prog 112 #[v, .func (.func gw) #[] #[]] w (GaveW w (toldW s W)) := by
  obtain ⟨ao, c, rfl, _⟩ := hS.form
  have hC0 := (Chg.refl (fun _ => False) w).alloc (.cells #[.slice none 0 0, .nilFunc] 133)
  have z0 := new_cell w #[.slice none 0 0, .nilFunc] 133 (i := 0) rfl
  have z1 := new_cell w #[.slice none 0 0, .nilFunc] 133 (i := 1) rfl
  have f0 := new_frozen w #[.slice none 0 0, .nilFunc] 133 0
  have f1 := new_frozen w #[.slice none 0 0, .nilFunc] 133 1
  have hse := seen_any _ s _ (hS.fr hC0) hl
  unfold GaveSeen at hse
  have HW0 := Lib.hid hw
  clear hS hw
  cases hsh : shB s with
  | false =>
    have hE := cntE_not hsh
    have HR := Lib.hid (show toldW s W = noW 110 by unfold toldW; rw [hsh]; rfl)
    rw [hE] at hse
    clear hE hsh
    go_enter Try.func112, Try.ntmps112
    go_wp2_with fail
    refine hse.mono ?_
    clear hse
    rintro e9 w1 ⟨v1, rfl, ho1, hC1⟩
    obtain ⟨a1, c1, rfl⟩ := own_name ho1
    have hsz : w.heap.size < w1.heap.size := cell_lt (hC1.cell z0 id)
    replace f0 := hC1.frozen z0 f0 id
    replace f1 := hC1.frozen z1 f1 id
    replace z0 := hC1.cell z0 id
    replace z1 := hC1.cell z1 id
    have HC := Lib.hid (hC0.tr hC1)
    obtain ⟨g0, g1⟩ := set2_cells (.slice none 0 0) .nilFunc z0 z1
    replace g0 := alloc_cell g0 (.cells #[.slice a1 s.length c1] 140)
    replace g1 := alloc_cell g1 (.cells #[.slice a1 s.length c1] 140)
    clear hC1 ho1 hC0
    go_wp2
    simp [bodyPost, results, Try.results112, go_sem, g0, g1]
    rw [HR.out]
    exact ⟨_, fun _ => False, rfl, .inr ⟨by decide, rfl, rfl, rfl⟩, fun _ h => h.elim, ((HC.out.setCell (p := ⟨w.heap.size, 0, none⟩) (.inr (Nat.le_refl _)) _).setCell (p := ⟨w.heap.size, 1, none⟩) (.inr (Nat.le_refl _)) _).alloc _⟩
  | true =>
    have hE := cntE_ok hsh
    have HR := Lib.hid (show toldW s W = W by unfold toldW; rw [hsh]; rfl)
    rw [hE] at hse
    have hw := HW0.out hsh
    have HW1 := Lib.hid hw
    clear hE hsh hw
    go_enter Try.func112, Try.ntmps112
    go_wp2_with fail
    refine hse.mono ?_
    clear hse
    rintro e9 w1 ⟨v1, rfl, ho1, hC1⟩
    obtain ⟨a1, c1, rfl⟩ := own_name ho1
    have hsz : w.heap.size < w1.heap.size := cell_lt (hC1.cell z0 id)
    have hC2 := hC1.alloc (.cells #[.slice a1 s.length c1] 140)
    have hcall := HW1.out (.slice a1 s.length c1) (w1.alloc (.cells #[.slice a1 s.length c1] 140)) (ho1.ls.fr ((Chg.refl _ w1).alloc _)) (fun q hq => by have := (ho1.lt q hq).2; simp; omega)
    replace f0 := hC2.frozen z0 f0 id
    replace f1 := hC2.frozen z1 f1 id
    replace z0 := hC2.cell z0 id
    replace z1 := hC2.cell z1 id
    have hn1 : ∀ q, Blk (.slice a1 s.length c1) q → w.heap.size < q := fun q hq => by have := (ho1.lt q hq).1; simp at this; omega
    have HC := Lib.hid (hC0.tr hC2)
    have HN := Lib.hid hn1
    have HN0 := Lib.hid hn
    clear hC1 hC2 hC0 ho1 hn1 hn
    go_wp2_with fail
    refine hcall.mono ?_
    clear hcall
    rintro e9 w3 ⟨v3, D3, rfl, hW3, hD3, hC3⟩
    replace f0 := hC3.frozen z0 f0 id
    replace f1 := hC3.frozen z1 f1 id
    replace z0 := hC3.cell z0 id
    replace z1 := hC3.cell z1 id
    obtain ⟨_, vs3, gf3, lb3, rfl, hs3, hd3, hf3⟩ := id (hW3.resolve_right (fun h => h.1 HN0.out))
    obtain ⟨a3, c3, rfl, _⟩ := hs3.form
    obtain ⟨g0, g1⟩ := set2_cells (.slice a3 W.s.length c3) (.func (.func gf3) #[] lb3) z0 z1
    have HW := Lib.hid hW3
    have HD := Lib.hid hD3
    have HC3 := Lib.hid hC3
    clear hs3 hd3 hf3 hW3 hD3 hC3
    rw [HN0.out]
    go_wp2
    simp [bodyPost, results, Try.results112, go_sem, g0, g1]
    rw [HR.out]
    refine way_store (x := w.heap.size) HW.out (fun k hk => ?_) (Nat.le_refl _) (Nat.le_refl _) (fun hk => ?_) (HC.out.tr HC3.out) HN0.out.symm
    · rcases HD.out k hk with h | h
      · exact .inr (Nat.le_of_lt (HN.out _ h))
      · exact .inr (by simp at h; omega)
    · rcases HD.out _ hk with h | h
      · exact absurd (HN.out _ h) (by omega)
      · simp at h; omega
def revW (s : List Int) : Wy := toldW s ⟨s, revG s, 0⟩
end Go.Proofs.Ytjmlekdgipinfaa
