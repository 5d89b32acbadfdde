/- Logs of notes that may be. -/
import Derived.Test.YtpiboaoifcajdaaNtV
import Derived.Test.YtpiboaoifcajdaaNtD
namespace Go.Proofs.Ytpiboaoifcajdaa
open Go.RowKit Go.Shelf

/-- The notes behind the first one, of notes. -/
def takeM : List Nt → List Nt
  | [] => []
  | x :: r => if x.k = 1 then [] else if x.k = 4 ∨ x.k = 5 then [x] else x :: takeM r
theorem takeN_enc : ∀ (L : List Nt), (∀ x ∈ L, x.may = true ∧ x.ok) → takeN (L.map encN) = takeM L
  | [], _ => rfl
  | x :: r, h => by
    obtain ⟨hm, hok⟩ := h x (List.mem_cons_self ..)
    obtain ⟨d1, d2, _⟩ := enc_may hm hok
    rw [List.map_cons]
    unfold takeN takeM
    rw [if_pos d1, d2, takeN_enc r (fun y hy => h y (List.mem_cons_of_mem _ hy))]
theorem begN_enc (s : Int) (x : Nt) (r : List Nt) (h : x.may = true ∧ x.ok) : begN s ((x :: r).map encN) = decide (x.k = 1 ∧ x.a = s) := by
  obtain ⟨d1, d2, _⟩ := enc_may h.1 h.2
  rw [List.map_cons, begN_cons, d1, d2]
  simp
/-- What answers a log. -/
def GaveG (w : World) (bg : Bool) (l fl : List Nt) (e : Ending) (w' : World) : Prop :=
  ∃ lb mb base v stp, e = .returned (.pointer (some ⟨lb, 0, none⟩)) ∧ LogAt w' lb mb base ⟨bg, l, fl, stp⟩ v ∧ w.heap.size ≤ mb ∧ Chg (fun _ => False) w w'
theorem newP_any (s : Int) (ps : List (List UInt8)) (v : Value) (w : World) (hP : Pay w v ps) (hlen : ps.length ≤ 1000000) (hsm : ∀ xs ∈ ps, xs.length ≤ 140737488355328) (bg : Bool) (l fl : List Nt) (hbg : begN s ps = bg) (hl : noteN s ps = l) (hfl : (fil l).reverse = fl) :
    Calls Try.prog 15 #[.int .i64 s, v] w (GaveG w bg l fl) := by
  obtain ⟨vs, hv1, hv2, hv3⟩ := hP
  obtain ⟨ao, c, rfl, r⟩ := hv1.form
  rw [hv2]
  refine (new_any s ao ps.length c ps w ⟨vs, by rw [← hv2]; exact hv1, hv2, hv3⟩ rfl hlen hsm).mono ?_
  rintro e w' ⟨lb, mb, base, v, rfl, hL, hmb, hC⟩
  obtain ⟨g1, g2, g3⟩ := log_spec s ps
  rw [hbg] at g1
  rw [hl] at g2
  rw [hl, hfl] at g3
  generalize logOf s ps = t at *
  obtain ⟨bg', l', fl', stp⟩ := t
  simp only at g1 g2 g3
  subst g1 g2 g3
  exact ⟨lb, mb, base, v, stp, rfl, hL, hmb, hC⟩
theorem newB_any (s : Int) (x : Nt) (r : List Nt) (v : Value) (w : World) (hP : Pay w v ((x :: r).map encN)) (hlen : (x :: r).length ≤ 1000000) (hm : ∀ y ∈ x :: r, y.may = true ∧ y.ok) (bg : Bool) (l fl : List Nt) (hbg : decide (x.k = 1 ∧ x.a = s) = bg) (hl : (if bg then takeM r else []) = l) (hfl : (fil l).reverse = fl) :
    Calls Try.prog 15 #[.int .i64 s, v] w (GaveG w bg l fl) := by
  have h1 := begN_enc s x r (hm x (List.mem_cons_self ..))
  refine newP_any s _ v w hP (by rw [List.length_map]; exact hlen) (fun xs hx => ?_) bg l fl (h1.trans hbg) ?_ hfl
  · obtain ⟨y, hy, rfl⟩ := List.mem_map.1 hx
    obtain ⟨_, _, _, h17⟩ := enc_may (hm y hy).1 (hm y hy).2
    rw [h17]
    decide
  · unfold noteN
    rw [h1, hbg, List.map_cons, List.tail_cons, takeN_enc r (fun y hy => hm y (List.mem_cons_of_mem _ hy))]
    exact hl
theorem new_cell1 (w : World) (o : Obj) (c : Array Value) (t : TypeId) {i : Nat} {v : Value} (h : c[i]? = some v) : ((w.alloc o).alloc (.cells c t)).cell? ⟨w.heap.size + 1, i, none⟩ = some v := by
  have := new_cell (w.alloc o) c t h
  rw [World.size_alloc] at this
  exact this
theorem sl_nil (W : World) : Sl W (.slice none 0 0) (([] : List UInt8).map B) := ⟨⟨none, 0, rfl, Nat.le_refl _, by decide, fun _ => rfl⟩, fun j u h => by simp at h⟩
theorem pay_nil (W : World) : Pay W (.slice none 0 0) [] := ⟨[], ⟨⟨none, 0, rfl, Nat.le_refl _, by decide, fun _ => rfl⟩, fun j u h => by simp at h⟩, rfl, fun j u xs h => by simp at h⟩
theorem RowP.two {W w2 : World} {base : Nat} {v v2 : Value} {ps : List (List UInt8)} {vs : List Value} {o : Obj} (h1 : W.ownsRow base 24 1 v ps.length vs)
    (h2 : ∀ (j : Nat) (u : Value) (xs : List UInt8), vs[j]? = some u → ps[j]? = some xs → W.ownsRow base 5 1 u xs.length (xs.map B) ∧ ∀ g, u.ownBlock = some g → ¬ v.ownBlock = some g)
    (hown : w2.ownsRow base 24 1 v2 (ps.length + 2) (vs ++ [.slice (some ⟨W.heap.size, 0, none⟩) 1 1, .slice none 0 0])) (hg : ((W.alloc (.cells #[.int .u8 1] 5)).alloc o).grownBy w2 v.ownBlock) : Pay w2 v2 (ps ++ [[1], []]) := by
  have hl : vs.length = ps.length := by simpa using h1.1
  have hC : Chg (fun q => v.ownBlock = some q) W w2 := (((Chg.refl _ W).alloc _).alloc o).grown hg (fun k e => .inl e)
  have hC1 : Chg (fun q => v.ownBlock = some q) (W.alloc (.cells #[.int .u8 1] 5)) w2 := ((Chg.refl _ _).alloc o).grown hg (fun k e => .inl e)
  refine ⟨_, Sl.of_owns hown, by simp [hl], fun j u xs hu hx => ?_⟩
  by_cases hj : j < vs.length
  · rw [List.getElem?_append_left hj] at hu
    rw [List.getElem?_append_left (by omega)] at hx
    obtain ⟨k1, k2⟩ := h2 j u xs hu hx
    exact Sl.of_owns (hC.owns k1 k2)
  · have e1 := (List.getElem?_eq_some_iff.1 hu).1
    simp at e1
    rw [List.getElem?_append_right (by omega)] at hu hx
    rw [← hl] at hx
    obtain ⟨i, hi⟩ : ∃ i, j - vs.length = i := ⟨_, rfl⟩
    rw [hi] at hu hx
    have hi2 : i = 0 ∨ i = 1 := by omega
    rcases hi2 with rfl | rfl
    · simp at hu hx
      subst hu hx
      refine ⟨⟨_, _, rfl, Nat.le_refl _, by decide, fun e => (by cases e)⟩, fun j u hu => ⟨_, _, _, rfl, ?_⟩⟩
      rw [Nat.zero_add]
      refine hC1.cell (new_cell W _ _ (by simpa [B] using hu)) (fun e => ?_)
      have := (h1.lt _ e).2
      simp at this
    · simp at hu hx
      subst hu hx
      exact sl_nil _
theorem dec_one : decE [1] ≠ 0 := by rw [decE_no (dec_short (by decide))]; decide
theorem broken_log (x : Nt) (hx : x.may = true ∧ x.ok) (s : Int) (hs : x.k = 1 ∧ x.a = s) : begN s ([encN x] ++ [[1], []]) = true ∧ noteN s ([encN x] ++ [[1], []]) = [] := by
  obtain ⟨d1, d2, _⟩ := enc_may hx.1 hx.2
  have hb : begN s ([encN x] ++ [[1], []]) = true := by
    rw [List.cons_append, begN_cons, d1, d2]
    exact decide_eq_true ⟨rfl, hs⟩
  refine ⟨hb, ?_⟩
  unfold noteN
  rw [if_pos hb, List.cons_append, List.tail_cons, List.nil_append]
  unfold takeN
  rw [if_neg dec_one]
end Go.Proofs.Ytpiboaoifcajdaa
