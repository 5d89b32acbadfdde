/- turn: views, and the ways on which rows are turned. -/
import Derived.Test.YtmmbdhfljabefaaArI
namespace Go.Proofs.Ytmmbdhfljabefaa
open Go.RowKit Go.Shelf

/-- How long a row is. -/
def rowN (s : List Int) : Int := s.getLast?.getD 1
def tabG (n : Nat) (f : Nat → Int × Int) : List (Int × Int) := (List.range n).map f
theorem tabG_length (n : Nat) (f : Nat → Int × Int) : (tabG n f).length = n := by simp [tabG]
theorem tabG_at {n : Nat} {f : Nat → Int × Int} {i : Nat} {x : Int × Int} (h : (tabG n f)[i]? = some x) : i < n ∧ x = f i := by
  have hi := (List.getElem?_eq_some_iff.1 h).1
  rw [tabG_length] at hi
  refine ⟨hi, ?_⟩
  unfold tabG at h
  rw [List.getElem?_map, List.getElem?_range hi] at h
  exact (Option.some.inj h).symm
theorem tabG_congr {n : Nat} {f g : Nat → Int × Int} (h : ∀ i, i < n → f i = g i) : tabG n f = tabG n g :=
  List.map_congr_left (fun i hi => h i (List.mem_range.1 hi))
def cnt (s : List Int) : Nat := (cntN s).toNat
theorem cnt_int (s : List Int) : (cnt s : Int) = cntN s := by
  unfold cnt
  have := cntN_bd s
  omega
def GaveSeen (w : World) (s : List Int) (e : Ending) (w' : World) : Prop := ∃ v', e = .returned (.tuple #[.agg #[v'], .int .i64 (cntE s)]) ∧ Own w' w.heap.size 3 v' s ∧ Chg (fun _ => False) w w'
theorem set1_cell {w : World} {g : Nat} {z0 : Value} (a : Value) (h0 : w.cell? ⟨g, 0, none⟩ = some z0) : (w.setCell ⟨g, 0, none⟩ a).cell? ⟨g, 0, none⟩ = some a := World.cell?_setCell_same' _ _ _ (by rw [h0]; rfl)
theorem set2_cells {w : World} {g : Nat} {z0 z1 : Value} (a b : Value) (h0 : w.cell? ⟨g, 0, none⟩ = some z0) (h1 : w.cell? ⟨g, 1, none⟩ = some z1) :
    ((w.setCell ⟨g, 0, none⟩ a).setCell ⟨g, 1, none⟩ b).cell? ⟨g, 0, none⟩ = some a ∧ ((w.setCell ⟨g, 0, none⟩ a).setCell ⟨g, 1, none⟩ b).cell? ⟨g, 1, none⟩ = some b := by
  have e0 : (w.setCell ⟨g, 0, none⟩ a).cell? ⟨g, 0, none⟩ = some a := World.cell?_setCell_same' _ _ _ (by rw [h0]; rfl)
  exact ⟨by rw [World.cell?_setCell_other _ _ _ _ (by simp), e0], World.cell?_setCell_same' _ _ _ (by rw [World.cell?_setCell_other _ _ _ _ (by simp), h1]; rfl)⟩
set_option maxHeartbeats 400000 in
theorem seen_any (v : Value) (s : List Int) (w : World) (hS : Ls w v s) (hl : s.length ≤ 1000000) : Calls Try.prog 48 #[v] w (GaveSeen w s) := by
  obtain ⟨ao, c, rfl, _⟩ := hS.form
  have hC0 := (Chg.refl (fun _ => False) w).alloc (.cells #[.slice none 0 0] 69)
  have z0 := new_cell w #[.slice none 0 0] 69 (i := 0) rfl
  have f0 := new_frozen w #[.slice none 0 0] 69 0
  have h1 := count_any _ s _ (hS.fr hC0)
  have h2 := cloneI_any _ s _ (hS.fr hC0) hl
  unfold GaveC at h1
  obtain ⟨E, hE⟩ : ∃ E, cntE s = E := ⟨_, rfl⟩
  generalize cntN s = C at *
  rw [hE] at h1
  have HE := Lib.hid hE
  clear hS hE
  go_enter Try.func48, Try.ntmps48
  go_wp2_with fail
  refine h1.mono ?_
  clear h1
  rintro e9 w1 ⟨rfl, rfl⟩
  go_wp2_with fail
  refine h2.mono ?_
  clear h2
  rintro e9 w2 ⟨v2, rfl, ho, hC2⟩
  obtain ⟨a2, c2, rfl⟩ := own_name ho
  have y0 := hC2.cell z0 id
  have x0 := hC2.frozen z0 f0 id
  have g0 := set1_cell (.slice a2 s.length c2) y0
  clear z0 f0
  go_wp2
  simp [bodyPost, results, Try.results48, go_sem, g0]
  unfold GaveSeen
  rw [HE.out]
  exact ⟨_, rfl, (own_set ho (a := ⟨w.heap.size, 0, none⟩) (by simp) _).mono (by simp), (hC0.tr hC2).setCell (p := ⟨w.heap.size, 0, none⟩) (.inr (Nat.le_refl _)) _⟩
theorem rowN_last {s : List Int} (h : s ≠ []) : s.length - 1 < s.length ∧ ∀ h2, s[s.length - 1]'h2 = rowN s := by
  have h0 : 0 < s.length := List.length_pos_iff.2 h
  refine ⟨by omega, fun h2 => ?_⟩
  unfold rowN
  rw [List.getLast?_eq_getElem?, List.getElem?_eq_getElem h2]
  rfl
theorem row_any (v : Value) (s : List Int) (w : World) (hS : Ls w v s) (hl : s.length ≤ 1000000) : Calls Try.prog 51 #[.agg #[v]] w (GaveI w (rowN s)) := by
  obtain ⟨ao, c, rfl, _⟩ := hS.form
  have hC0 := (Chg.refl (fun _ => False) w).alloc (.cells #[.slice ao s.length c] 69)
  by_cases h0 : s = []
  · subst h0
    clear hS
    go_enter Try.func51, Try.ntmps51
    go_wp2
    go_ret
    exact ⟨rfl, hC0⟩
  · have hlen := List.length_pos_iff.2 h0
    obtain ⟨h1, h2⟩ := rowN_last h0
    have b0 : ((s.length : Int) == 0) = false := beq_eq_false_iff_ne.2 (by omega)
    obtain ⟨b, o, c', e1, hc⟩ := (hS.fr hC0).at h1
    rw [h2] at hc
    injection e1 with e1 e2 e3
    clear e2 e3
    subst e1
    obtain ⟨j, hj⟩ : ∃ j, s.length - 1 = j := ⟨_, rfl⟩
    rw [hj] at hc h1
    have hw : IntKind.i64.wrap ((s.length : Int) - 1) = (j : Int) := (IntWalk.i64_in _ (by omega)).trans (by omega)
    have hj1 : (j : Int) < (s.length : Int) := by omega
    generalize rowN s = R at *
    clear hS h2 hj hlen h0
    go_enter Try.func51, Try.ntmps51
    go_wp2
    go_ret
    exact ⟨rfl, hC0⟩
/-- What a row's place goes to. -/
def ToAt (w : World) (D : Nat → Prop) (gf : Nat) (lb : Array Value) (m : Int) (n : Nat) (F : Nat → Int) : Prop :=
  (∀ args w, (callFunc gf args).run Try.prog w = .ok (.enter gf args) w) ∧ ∀ i, i < n → ∀ w', OldC D w w' → Calls Try.prog gf (#[.int .i64 ((i : Int) / m), .int .i64 ((i : Int) % m)] ++ lb) w' (GaveI w' (F i))
theorem ToAt.old {w w' : World} {D : Nat → Prop} {gf : Nat} {lb : Array Value} {m : Int} {n : Nat} {F : Nat → Int} (h : ToAt w D gf lb m n F) (hC : OldC D w w') : ToAt w' D gf lb m n F := ⟨h.1, fun i hi w2 h2 => h.2 i hi w2 (hC.trans h2)⟩
set_option maxHeartbeats 1000000 in
theorem along1_any (bl bt gf : Nat) (lb : Array Value) (i : Nat) (m f q r : Int) (w : World) (x0 : w.cell? ⟨bl, 0, none⟩ = some (.int .i64 m)) (x1 : w.cell? ⟨bt, 0, none⟩ = some (.func (.func gf) #[] lb)) (hm : 0 < m) (hm2 : m ≤ 4096) (hi : (i : Int) ≤ 4096) (hf0 : 0 ≤ f) (hf1 : f ≤ 4096) (hq : (i : Int) / m = q) (hr : (i : Int) % m = r)
    (eg : ∀ args w, (callFunc gf args).run Try.prog w = .ok (.enter gf args) w) (hto : ∀ w', Chg (fun _ => False) w w' → Calls Try.prog gf (#[.int .i64 q, .int .i64 r] ++ lb) w' (GaveI w' f)) :
    Calls Try.prog 80 (#[.int .i64 i] ++ #[.pointer (some ⟨bl, 0, none⟩), .pointer (some ⟨bt, 0, none⟩)]) w (GaveII w 0 (q * m + f)) := by
  have hq0 : 0 ≤ q := by rw [← hq]; exact Int.ediv_nonneg (by omega) (by omega)
  have hq1 : q ≤ 4096 := by rw [← hq]; exact Int.le_trans (Int.ediv_le_self _ (by omega)) hi
  have hqm : 0 ≤ q * m ∧ q * m ≤ 4096 := by
    refine ⟨Int.mul_nonneg hq0 (by omega), ?_⟩
    have := Int.ediv_mul_le (i : Int) (show m ≠ 0 by omega)
    rw [hq] at this
    omega
  have e1 : Int.tdiv (i : Int) m = q := by rw [Int.tdiv_eq_ediv_of_nonneg (by omega)]; exact hq
  have e2 : Int.tmod (i : Int) m = r := by rw [Int.tmod_eq_emod_of_nonneg (by omega)]; exact hr
  have w1 : IntKind.i64.wrap q = q := IntWalk.i64_in _ (by omega)
  have w2 : IntKind.i64.wrap (q * m) = q * m := IntWalk.i64_in _ (by omega)
  have w3 : IntKind.i64.wrap (q * m + f) = q * m + f := IntWalk.i64_in _ (by omega)
  have hm0 : ¬ m = 0 := by omega
  have KP := Lib.hid (show ∀ w', Chg (fun _ => False) w w' → (Chg (fun _ => False) w w' ∧ w'.cell? ⟨bl, 0, none⟩ = some (.int .i64 m) ∧ w'.cell? ⟨bt, 0, none⟩ = some (.func (.func gf) #[] lb)) from fun w' h => ⟨h, h.cell x0 id, h.cell x1 id⟩)
  have hto1 := hto _ ((Chg.refl _ _).drew)
  have HQ := Lib.hid hq
  have HR := Lib.hid hr
  clear hto hq hr
  go_enter Try.func80, Try.ntmps80
  go_wp2_with fail
  go_region_held3 (fun w' => Chg (fun _ => False) w w' ∧ w'.cell? ⟨bl, 0, none⟩ = some (.int .i64 m) ∧ w'.cell? ⟨bt, 0, none⟩ = some (.func (.func gf) #[] lb)) (first | exact KP.out _ ((Chg.refl _ _).drew) | exact KP.out _ (((Chg.refl _ _).drew).tr hC9)) ((refine hto1.mono ?_; rintro e9 w9 ⟨rfl, hC9⟩))
  all_goals
    go_wp2
    go_ret2
    exact ⟨rfl, ((Chg.refl _ w).drew).tr hC9⟩
end Go.Proofs.Ytmmbdhfljabefaa
