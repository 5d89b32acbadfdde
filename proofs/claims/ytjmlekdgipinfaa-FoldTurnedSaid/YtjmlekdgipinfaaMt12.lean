/- turn: the document's reverse. -/
import Derived.Test.YtjmlekdgipinfaaMt11
import Derived.RegionTactic
namespace Go.Proofs.Ytjmlekdgipinfaa
open Go.RowKit Go.Shelf

theorem ls_set {w : World} {b o n c : Nat} {xs : List Int} (h : Ls w (.slice (some ⟨b, o, none⟩) n c) xs) (j : Nat) (y : Int) : Ls (w.setCell ⟨b, o + j, none⟩ (.int .i64 y)) (.slice (some ⟨b, o, none⟩) n c) (xs.set j y) := by
  have hl : ((xs.set j y).map I).length = (xs.map I).length := by simp
  refine ⟨?_, fun i u hu => ?_⟩
  · obtain ⟨ao, c', e, h1, h2, h3⟩ := Sl.form h
    exact ⟨ao, c', by rw [hl]; exact e, by rw [hl]; exact h1, h2, h3⟩
  · have hi : i < xs.length := by have := (List.getElem?_eq_some_iff.1 hu).1; simpa using this
    obtain ⟨b', o', c', e, hc⟩ := Sl.cells h i (I xs[i]) (by simp [hi])
    rw [hl]
    refine ⟨b', o', c', e, ?_⟩
    injection e with e _ _
    injection e with e
    injection e with e1 e2 _
    subst e1 e2
    rw [List.getElem?_map, List.getElem?_set] at hu
    by_cases hij : j = i
    · subst hij
      rw [if_pos rfl, if_pos hi] at hu
      have := Option.some.inj hu
      subst this
      exact World.cell?_setCell_same' _ _ _ (by rw [hc]; rfl)
    · rw [if_neg hij, List.getElem?_eq_getElem hi] at hu
      have := Option.some.inj hu
      subst this
      rw [World.cell?_setCell_other _ _ _ _ (by simp only [ne_eq, Addr.mk.injEq]; omega)]
      exact hc
/-- A way under way, in the box gb. -/
def GatL (w0 W : World) (base gb : Nat) (vs : Value) (s : List Int) (g : List (Int × Int)) : Prop :=
  ∃ vo vp, Bx W gb vs vo vp ∧ GatB W base vs vo vp s g ∧ (∀ q, vs.ownBlock = some q → q ≠ gb) ∧ (∀ q, vo.ownBlock = some q → q ≠ gb) ∧ (∀ q, vp.ownBlock = some q → q ≠ gb) ∧ Chg (fun _ => False) w0 W ∧ w0.heap.size ≤ base ∧ w0.heap.size ≤ gb
theorem GatL.fr {w0 W W' : World} {base gb : Nat} {vs : Value} {s : List Int} {g : List (Int × Int)} (h : GatL w0 W base gb vs s g) (hC : Chg (fun _ => False) W W') : GatL w0 W' base gb vs s g := by
  obtain ⟨vo, vp, h1, h2, h3, h4, h5, h6, h7⟩ := h
  exact ⟨vo, vp, h1.fr hC, h2.fr hC, h3, h4, h5, h6.tr hC, h7⟩
theorem GatL.start {w0 w1 : World} {base : Nat} {vs : Value} {s : List Int} {t : TypeId} (h : Own w1 base 3 vs s) (hC : Chg (fun _ => False) w0 w1) (hb : w0.heap.size ≤ base) : GatL w0 (w1.alloc (.cells #[vs, .slice none 0 0, .slice none 0 0] t)) base w1.heap.size vs s [] :=
  ⟨_, _, Bx.new w1 _ _ _ t, ⟨h.alloc _, Own.nil _ _ _, Own.nil _ _ _, fun q hq => by simp [Value.ownBlock] at hq, fun q _ hq => by simp [Value.ownBlock] at hq, fun q _ hq => by simp [Value.ownBlock] at hq⟩,
    fun q hq => by have := (h.lt q hq).2; omega, fun q hq => by simp [Value.ownBlock] at hq, fun q hq => by simp [Value.ownBlock] at hq, hC.alloc _, hb, hC.size⟩
theorem GatL.next {w0 W W' : World} {base gb : Nat} {vs vo vp vo' vp' : Value} {s : List Int} {g g' : List (Int × Int)} (hbx : Bx W gb vs vo vp) (h3 : ∀ q, vs.ownBlock = some q → q ≠ gb) (h4 : ∀ q, vo.ownBlock = some q → q ≠ gb) (h5 : ∀ q, vp.ownBlock = some q → q ≠ gb) (hG : GatB W base vs vo vp s g) (h6 : Chg (fun _ => False) w0 W) (h7 : w0.heap.size ≤ base) (h8 : w0.heap.size ≤ gb)
    (hG' : GatB W' base vs vo' vp' s g') (hC : Chg (fun k => vo.ownBlock = some k ∨ vp.ownBlock = some k) W W') (ho : ∀ q, vo'.ownBlock = some q → vo.ownBlock = some q ∨ W.heap.size ≤ q) (hp : ∀ q, vp'.ownBlock = some q → vp.ownBlock = some q ∨ W.heap.size ≤ q) :
    Bx W' gb vs vo vp ∧ GatL w0 (((W'.setCell ⟨gb, 0, none⟩ vs).setCell ⟨gb, 1, none⟩ vo').setCell ⟨gb, 2, none⟩ vp') base gb vs s g' := by
  have hbx' := hbx.chg hC (fun h => h.elim (fun h => h4 _ h rfl) (fun h => h5 _ h rfl))
  have ho' : ∀ q, vo'.ownBlock = some q → q ≠ gb := fun q hq => by
    rcases ho q hq with h | h
    · exact h4 q h
    · have := hbx.lt; omega
  have hp' : ∀ q, vp'.ownBlock = some q → q ≠ gb := fun q hq => by
    rcases hp q hq with h | h
    · exact h5 q h
    · have := hbx.lt; omega
  obtain ⟨⟨g0, g1⟩, g2⟩ := set3_cells vs vo' vp' hbx'.c0 hbx'.c1 hbx'.c2
  refine ⟨hbx', vo', vp', ⟨g0, g1, g2, ?_, ?_, ?_⟩, ⟨own_off3 hG'.os _ _ _ h3, own_off3 hG'.oo _ _ _ ho', own_off3 hG'.op _ _ _ hp', hG'.d1, hG'.d2, hG'.d3⟩, h3, ho', hp', ?_, h7, h8⟩
  · rw [World.frozen?_setCell, World.frozen?_setCell, World.frozen?_setCell]; exact hbx'.f0
  · rw [World.frozen?_setCell, World.frozen?_setCell, World.frozen?_setCell]; exact hbx'.f1
  · rw [World.frozen?_setCell, World.frozen?_setCell, World.frozen?_setCell]; exact hbx'.f2
  · exact chg_set3 (h6.trans hC (fun _ _ h => h) (fun i hi e => e.elim (fun e => by have := (hG.oo.lt _ e).1; omega) (fun e => by have := (hG.op.lt _ e).1; omega))) h8 _ _ _
theorem tabG_succ (j : Nat) (f : Nat → Int × Int) : tabG (j + 1) f = tabG j f ++ [f j] := by simp [tabG, List.range_succ]
/-- A place of which the last number is turned. -/
theorem pl_last {f : List Int} {m i y : Int} (hs : ∀ l ∈ f ++ [m], 0 < l) (h0 : 0 ≤ i) (h1 : i < prodL (f ++ [m])) (hy0 : 0 ≤ y) (hy1 : y < m) : inL (f ++ [m]) (atL f (i / m) ++ [y]) = true ∧ plL (f ++ [m]) (atL f (i / m) ++ [y]) = i / m * m + y := by
  have hf : ∀ l ∈ f, 0 < l := fun l hl => hs l (by simp [hl])
  have hm : 0 < m := hs m (by simp)
  have hp : prodL (f ++ [m]) = prodL f * m := by rw [prodL_append]; simp [prodL]
  rw [hp] at h1
  refine ⟨?_, ?_⟩
  · rw [inL_iff]
    refine ⟨by simp [atL_length], fun k x l hx hl => ?_⟩
    by_cases hk : k < f.length
    · rw [List.getElem?_append_left (by rw [atL_length]; exact hk)] at hx
      rw [List.getElem?_append_left hk] at hl
      exact atL_bd hf k x l hx hl
    · rw [List.getElem?_append_right (by rw [atL_length]; omega), atL_length] at hx
      rw [List.getElem?_append_right (by omega)] at hl
      have hk0 : k - f.length = 0 := by
        have := (List.getElem?_eq_some_iff.1 hl).1
        simp at this
        omega
      rw [hk0] at hx hl
      simp at hx hl
      subst hx hl
      exact ⟨hy0, hy1⟩
  · rw [plL_append _ _ _ _ (atL_length _ _), plL_one, plL_atL (fun l hl => Int.le_of_lt (hf l hl)) (Int.ediv_nonneg h0 (by omega)) (Int.ediv_lt_of_lt_mul hm h1)]
    simp [prodL]
theorem atL_last (f : List Int) (m i : Int) (hm : 0 ≤ m) : atL (f ++ [m]) i = atL f (i / m) ++ [i % m] := by
  have hp : prodL [m] = m := by simp [prodL]
  rw [atL_append _ _ _ (by rw [hp]; exact hm), hp]
  simp [atL, prodL]
theorem at_lastval {s : List Int} (h : s ≠ []) (hp : ∀ l ∈ s, 0 < l) (i : Int) (h2 : s.length - 1 < (atL s i).length) : (atL s i)[s.length - 1] = i % rowN s := by
  obtain ⟨f, m, rfl⟩ : ∃ f m, s = f ++ [m] := by
    rcases List.eq_nil_or_concat s with h0 | ⟨f, m, h1⟩
    · exact absurd h0 h
    · exact ⟨f, m, by rw [h1, List.concat_eq_append]⟩
  have hm : 0 < m := hp m (by simp)
  have e := atL_last f m i (by omega)
  have hr : rowN (f ++ [m]) = m := by simp [rowN]
  rw [hr]
  have e2 : (atL (f ++ [m]) i)[(f ++ [m]).length - 1]? = some (i % m) := by
    rw [e, List.getElem?_append_right (by rw [atL_length]; simp), atL_length]
    simp
  exact (List.getElem?_eq_some_iff.1 e2).2
/-- Where the document's reverse brings the i-th element from. -/
def revP (s : List Int) (i : Nat) : List Int := if s = [] then [] else (atL s i).set (s.length - 1) (rowN s - 1 - (i : Int) % rowN s)
theorem rev_pl {s : List Int} (hsh : shB s = true) (i : Nat) (hi : i < cnt s) : plN s (revP s i) = (i : Int) / rowN s * rowN s + revF s i := by
  have hs := shB_iff.1 hsh
  have hc := cnt_int s
  rw [cntN_ok hsh] at hc
  have hpos := pos_of_prod (s := s) (fun l hl => (hs.2.1 l hl).1) (by omega)
  rcases List.eq_nil_or_concat s with rfl | ⟨f, m, rfl⟩
  · have : i = 0 := by simp [prodL] at hc; omega
    subst this
    simp [revP, plN, plB, inL, plL, revF, rowN]
  · rw [List.concat_eq_append] at *
    have hr : rowN (f ++ [m]) = m := by simp [rowN]
    have hm : 0 < m := hpos m (by simp)
    have e : revP (f ++ [m]) i = atL f ((i : Int) / m) ++ [m - 1 - (i : Int) % m] := by
      unfold revP
      rw [if_neg (by simp), hr, atL_last f m i (by omega), List.set_append_right _ _ (by rw [atL_length]; simp)]
      simp [atL_length]
    have h1 := Int.emod_nonneg (i : Int) (show m ≠ 0 by omega)
    have h2 := Int.emod_lt_of_pos (i : Int) hm
    obtain ⟨g1, g2⟩ := pl_last (f := f) (m := m) (i := (i : Int)) (y := m - 1 - (i : Int) % m) hpos (by omega) (by omega) (by omega) (by omega)
    rw [e, plN_ok (by unfold plB; rw [hsh, g1]; rfl), g2]
    unfold revF
    rw [hr]
theorem revG_eq {s : List Int} (hsh : shB s = true) : tabG (cnt s) (fun i => (0, plN s (revP s i))) = revG s := tabG_congr (fun i hi => by rw [rev_pl hsh i hi])
end Go.Proofs.Ytjmlekdgipinfaa
