/- Arguments, opened: lists of numbers, and arrays. -/
import Derived.Test.YtjmlekdgipinfaaMp5
import Derived.ProofKit
import Derived.OpenShut
import Derived.Deep.Slices
import Derived.SizedLaws
import Derived.Test.YtjmlekdgipinfaaMp39
import Derived.Test.YtjmlekdgipinfaaMp33
import Derived.Test.YtjmlekdgipinfaaMp24
import Derived.Deep.Cut
namespace Go.Proofs.Ytjmlekdgipinfaa
open Go.ChangeShapes Go.WideShapes Go.ChangeAt Go.RowKit

set_option maxRecDepth 100000 in
theorem open_row_longs {H : Type} {enc : TypeId × Value → H} {W : World} {fuel : Nat} {u : Value} {x : DataW H × List MemPlace} (h : DataW.trod enc Try.prog W 0 (fun _ => true) true fuel 23 [u] = some x) : ∃ xs : List Int, Ls W u xs ∧ ∀ y ∈ xs, -9223372036854775808 ≤ y ∧ y ≤ 9223372036854775807 := by
  rcases Go.ChangeShapes.open_ints Try.underlying23 Try.underlying2 (by kernel_rfl) h with ⟨hcs, _⟩ | ⟨x, ln, c, zs, hcs, _, hl, hm, hz, _, hcell, hwz⟩
  · injection hcs with hcs _
    subst hcs
    exact ⟨[], Ls.nil _, fun _ h => by cases h⟩
  · injection hcs with hcs _
    subst hcs
    have hz' : zs.length = c := by simpa using hz
    have hlen : ((zs.take ln).map I).length = ln := by simp; omega
    refine ⟨zs.take ln, ⟨⟨some x, c, by rw [hlen], by rw [hlen]; exact hl, hm, fun h => (by cases h)⟩, fun j u hu => ?_⟩, fun y hy => wf_i64' (hwz y (List.mem_of_mem_take hy))⟩
    rw [hlen]
    have hj : j < ln := by
      have := (List.getElem?_eq_some_iff.1 hu).1
      omega
    have hc := hcell j (by omega)
    obtain ⟨b, o, sp⟩ := x
    have hspot : sp = none := by
      have h0 := hcell 0 (by omega)
      simp only [Addr.add, if_pos] at h0
      unfold World.cell? at h0
      cases sp with
      | none => rfl
      | some q => split at h0 <;> simp at h0
    subst hspot
    refine ⟨b, o, c, rfl, ?_⟩
    rw [Addr.add_lit] at hc
    rw [hc]
    have hjz : j < zs.length := by omega
    simp only [List.getElem?_map, List.getElem?_take, if_pos hj, List.getElem?_eq_getElem hjz, Option.map_some] at hu
    rw [← Option.some.inj hu, List.getD_eq_getElem?_getD, List.getElem?_eq_getElem hjz, Option.getD_some]
    rfl
def Oklongs (W : World) (v : Value) (xs : List Int) : Prop := Ls W v xs ∧ ∀ y ∈ xs, -9223372036854775808 ≤ y ∧ y ≤ 9223372036854775807
set_option maxRecDepth 100000 in
theorem open_longs {H : Type} {enc : TypeId × Value → H} {W : World} {base : Nat} {v : Value} {d : DataW H} {p : List MemPlace} (hv : Value.okWide Try.prog W .any base 23 v)
    (h : DataW.Trod enc Try.prog W 0 (fun _ => true) true 23 v d p) : ∃ xs : List Int, Oklongs W v xs := by
  obtain ⟨a0, len, cap, rfl⟩ := okWide_slice Try.underlying23 hv
  obtain ⟨fuel, hf⟩ := h
  exact open_row_longs hf
set_option maxRecDepth 100000 in
theorem open_row_shape {H : Type} {enc : TypeId × Value → H} {W : World} {fuel : Nat} {u : Value} {x : DataW H × List MemPlace} (h : DataW.trod enc Try.prog W 0 (fun _ => true) true fuel 22 [u] = some x) : ∃ xs : List Int, Ls W u xs ∧ ∀ y ∈ xs, -9223372036854775808 ≤ y ∧ y ≤ 9223372036854775807 := by
  rcases Go.ChangeShapes.open_ints Try.underlying22 Try.underlying3 (by kernel_rfl) h with ⟨hcs, _⟩ | ⟨x, ln, c, zs, hcs, _, hl, hm, hz, _, hcell, hwz⟩
  · injection hcs with hcs _
    subst hcs
    exact ⟨[], Ls.nil _, fun _ h => by cases h⟩
  · injection hcs with hcs _
    subst hcs
    have hz' : zs.length = c := by simpa using hz
    have hlen : ((zs.take ln).map I).length = ln := by simp; omega
    refine ⟨zs.take ln, ⟨⟨some x, c, by rw [hlen], by rw [hlen]; exact hl, hm, fun h => (by cases h)⟩, fun j u hu => ?_⟩, fun y hy => wf_i64' (hwz y (List.mem_of_mem_take hy))⟩
    rw [hlen]
    have hj : j < ln := by
      have := (List.getElem?_eq_some_iff.1 hu).1
      omega
    have hc := hcell j (by omega)
    obtain ⟨b, o, sp⟩ := x
    have hspot : sp = none := by
      have h0 := hcell 0 (by omega)
      simp only [Addr.add, if_pos] at h0
      unfold World.cell? at h0
      cases sp with
      | none => rfl
      | some q => split at h0 <;> simp at h0
    subst hspot
    refine ⟨b, o, c, rfl, ?_⟩
    rw [Addr.add_lit] at hc
    rw [hc]
    have hjz : j < zs.length := by omega
    simp only [List.getElem?_map, List.getElem?_take, if_pos hj, List.getElem?_eq_getElem hjz, Option.map_some] at hu
    rw [← Option.some.inj hu, List.getD_eq_getElem?_getD, List.getElem?_eq_getElem hjz, Option.getD_some]
    rfl
def Okshape (W : World) (v : Value) (xs : List Int) : Prop := Ls W v xs ∧ ∀ y ∈ xs, -9223372036854775808 ≤ y ∧ y ≤ 9223372036854775807
set_option maxRecDepth 100000 in
theorem open_shape {H : Type} {enc : TypeId × Value → H} {W : World} {base : Nat} {v : Value} {d : DataW H} {p : List MemPlace} (hv : Value.okWide Try.prog W .any base 22 v)
    (h : DataW.Trod enc Try.prog W 0 (fun _ => true) true 22 v d p) : ∃ xs : List Int, Okshape W v xs := by
  obtain ⟨a0, len, cap, rfl⟩ := okWide_slice Try.underlying22 hv
  obtain ⟨fuel, hf⟩ := h
  exact open_row_shape hf
/-- An array that came in. -/
def OkArr (W : World) (v : Value) (A : Ar) : Prop := Ara W v A ∧ (-9223372036854775808 ≤ A.k ∧ A.k ≤ 9223372036854775807) ∧ (∀ y ∈ A.s, -9223372036854775808 ≤ y ∧ y ≤ 9223372036854775807) ∧ ∀ y ∈ A.e, -9223372036854775808 ≤ y ∧ y ≤ 9223372036854775807
set_option maxRecDepth 100000 in
theorem open_arr {H : Type} {enc : TypeId × Value → H} {W : World} {base : Nat} {v : Value} {d : DataW H} {p : List MemPlace} (hv : Value.okWide Try.prog W .any base 25 v)
    (h : DataW.Trod enc Try.prog W 0 (fun _ => true) true 25 v d p) : ∃ A, OkArr W v A := by
  obtain ⟨cs, rfl, hsz⟩ := okWide_struct Try.underlying25 hv
  obtain ⟨fuel, hf0⟩ := h
  have hsz' : cs.toList.length = 3 := by
    have c3 : Try.prog.cellsOf 25 = 3 := by kernel_rfl
    rw [c3] at hsz
    simpa using hsz
  obtain ⟨l, hl⟩ : ∃ l, cs.toList = l := ⟨_, rfl⟩
  have hcs : cs = l.toArray := by rw [← hl]
  subst hcs
  clear hl
  rw [show (Value.agg l.toArray).cells.toList = l by simp [Value.cells]] at hf0
  obtain ⟨xs, k, hk, _, _, hxl, hf⟩ := DataW.trod_struct Try.underlying25 hf0
  match xs, hxl, l, hsz' with
  | [y0, y1, y2], _, [v0, v1, v2], _ =>
    have g0 := hf 0 _ rfl
    have g1 := hf 1 _ rfl
    have g2 := hf 2 _ rfl
    have ci : Try.prog.cellsOf 3 = 1 := by kernel_rfl
    have cj : Try.prog.cellsOf 22 = 1 := by kernel_rfl
    have cl : Try.prog.cellsOf 23 = 1 := by kernel_rfl
    simp [ci, cj, cl] at g0 g1 g2
    obtain ⟨q0, r0, _, w0⟩ := DataW.trod_int Try.underlying3 g0
    injection r0 with r0 _
    subst r0
    obtain ⟨s, hs, hs2⟩ := open_row_shape g1
    obtain ⟨e, he, he2⟩ := open_row_longs g2
    exact ⟨⟨q0, s, e⟩, ⟨v1, v2, rfl, hs, he⟩, wf_i64' w0, hs2, he2⟩
end Go.Proofs.Ytjmlekdgipinfaa
/- FoldRows: what a row folds to, how many rows there are, what reduce and scan make of any array, or the error, are the document's; arrays stay. -/
namespace Go.Proofs.Ytjmlekdgipinfaa
open Go.RowKit Go.Shelf

abbrev True_ := @Tru16
def grt1 (m : Nat) (A : Ar) : Bool := decide (m < A.e.length) || decide (100 < A.s.length)
set_option maxRecDepth 100000 in
set_option maxHeartbeats 1000000 in
theorem great16_one (m : Nat) (sa ea : Option Addr) (cs ce b : Nat) (A : Ar) (w : World) (h : w.cell? ⟨b, 1, none⟩ = some (.slice sa A.s.length cs) ∧ w.cell? ⟨b, 2, none⟩ = some (.slice ea A.e.length ce)) (g : Bool) (hg : grt1 m A = g) : Calls Try.prog 12 #[.int .i64 m, .slice (some ⟨b, 0, none⟩) 1 1] w (SaidB w g) := by
  obtain ⟨y1, y2⟩ := h
  obtain ⟨nA, hnA⟩ : ∃ n, A.s.length = n := ⟨_, rfl⟩
  obtain ⟨lA, hlA⟩ : ∃ n, A.e.length = n := ⟨_, rfl⟩
  unfold grt1 at hg
  rw [hnA, hlA] at hg
  rw [hnA] at y1
  rw [hlA] at y2
  obtain ⟨p1, hp1⟩ : ∃ p, decide (m < lA) = p := ⟨_, rfl⟩
  obtain ⟨p2, hp2⟩ : ∃ p, decide (100 < nA) = p := ⟨_, rfl⟩
  have q2 : decide ((100 : Int) < (nA : Int)) = p2 := by rw [← hp2]; exact decide_eq_decide.2 (by omega)
  rw [hp1, hp2] at hg
  have HG := Lib.hid hg
  clear hnA hlA hg
  go_enter Try.func12, Try.ntmps12
  go_wp2_with fail
  go_loopw [8] (fun vi wr => wr = w ∧ ((vi = .int .i64 0) ∨ (vi = .int .i64 1 ∧ p1 = false ∧ p2 = false))) (fun vi _ => 1 - (intOf vi).toNat)
  case atStart => exact ⟨rfl, .inl rfl⟩
  case round =>
    obtain ⟨rfl, h⟩ := hrel
    rcases h with rfl | ⟨rfl, rfl, rfl⟩
    · cases p1 with
      | true =>
        go_wp2
        go_ret
        exact ⟨by rw [← HG.out]; rfl, by first | rfl | trivial⟩
      | false =>
        cases p2 with
        | true =>
          go_wp2
          go_ret
          exact ⟨by rw [← HG.out]; rfl, by first | rfl | trivial⟩
        | false =>
          go_wp2
          go_roundw
          case rel => exact ⟨by first | rfl | trivial, .inr ⟨rfl, by first | rfl | trivial, by first | rfl | trivial⟩⟩
          case measure => decide
    · go_wp2
      go_ret
      exact ⟨by rw [← HG.out]; rfl, by first | rfl | trivial⟩
/-- An array in the box p. -/
structure Bx1 (w : World) (p : Nat) (sa ea : Option Addr) (cs ce : Nat) (A : Ar) : Prop where
  a0 : w.cell? ⟨p, 0, none⟩ = some (.int .i64 A.k)
  a1 : w.cell? ⟨p, 1, none⟩ = some (.slice sa A.s.length cs)
  a2 : w.cell? ⟨p, 2, none⟩ = some (.slice ea A.e.length ce)
  ls : Ls w (.slice sa A.s.length cs) A.s ∧ Ls w (.slice ea A.e.length ce) A.e
theorem Bx1.fr {w w' : World} {p : Nat} {sa ea : Option Addr} {cs ce : Nat} {A : Ar} (h : Bx1 w p sa ea cs ce A) (hC : Chg (fun _ => False) w w') : Bx1 w' p sa ea cs ce A :=
  ⟨hC.cell h.a0 id, hC.cell h.a1 id, hC.cell h.a2 id, h.ls.1.fr hC, h.ls.2.fr hC⟩
theorem Bx1.ara {w : World} {p : Nat} {sa ea : Option Addr} {cs ce : Nat} {A : Ar} (h : Bx1 w p sa ea cs ce A) : Ara w (.agg #[.int .i64 A.k, .slice sa A.s.length cs, .slice ea A.e.length ce]) A := ⟨_, _, rfl, h.ls.1, h.ls.2⟩
theorem Bx1.new {w : World} {sa ea : Option Addr} {cs ce : Nat} {A : Ar} (t : TypeId) (h1 : Ls w (.slice sa A.s.length cs) A.s) (h2 : Ls w (.slice ea A.e.length ce) A.e) : Bx1 (w.alloc (.cells #[.int .i64 A.k, .slice sa A.s.length cs, .slice ea A.e.length ce] t)) w.heap.size sa ea cs ce A := by
  obtain ⟨a0, a1, a2⟩ := cell_two w (.int .i64 A.k) (.slice sa A.s.length cs) (.slice ea A.e.length ce) t
  exact ⟨a0, a1, a2, h1.fr ((Chg.refl _ _).alloc _), h2.fr ((Chg.refl _ _).alloc _)⟩
/-- An array of its own memory in the box p. -/
structure BxO (w : World) (p base : Nat) (sa ea : Option Addr) (cs ce : Nat) (A : Ar) : Prop where
  a0 : w.cell? ⟨p, 0, none⟩ = some (.int .i64 A.k)
  a1 : w.cell? ⟨p, 1, none⟩ = some (.slice sa A.s.length cs)
  a2 : w.cell? ⟨p, 2, none⟩ = some (.slice ea A.e.length ce)
  os : Own w base 3 (.slice sa A.s.length cs) A.s
  oe : Own w base 2 (.slice ea A.e.length ce) A.e
  lt : ∀ q, ((Value.slice sa A.s.length cs).ownBlock = some q ∨ (Value.slice ea A.e.length ce).ownBlock = some q) → base ≤ q ∧ q < p
  bp : base ≤ p
theorem BxO.chg {S : Nat → Prop} {w w' : World} {p base : Nat} {sa ea : Option Addr} {cs ce : Nat} {A : Ar} (h : BxO w p base sa ea cs ce A) (hC : Chg S w w') (hS : ∀ q, S q → q < base) : BxO w' p base sa ea cs ce A := by
  have hp : ¬ S p := fun hs => by have := hS p hs; have := h.bp; omega
  exact ⟨hC.cell h.a0 hp, hC.cell h.a1 hp, hC.cell h.a2 hp, h.os.chg hC (fun k e hs => by have := (h.lt k (.inl e)).1; have := hS k hs; omega), h.oe.chg hC (fun k e hs => by have := (h.lt k (.inr e)).1; have := hS k hs; omega), h.lt, h.bp⟩
theorem BxO.fr {w w' : World} {p base : Nat} {sa ea : Option Addr} {cs ce : Nat} {A : Ar} (h : BxO w p base sa ea cs ce A) (hC : Chg (fun _ => False) w w') : BxO w' p base sa ea cs ce A := h.chg hC (fun _ h => h.elim)
theorem BxO.ara {w : World} {p base : Nat} {sa ea : Option Addr} {cs ce : Nat} {A : Ar} (h : BxO w p base sa ea cs ce A) : Ara w (.agg #[.int .i64 A.k, .slice sa A.s.length cs, .slice ea A.e.length ce]) A := ⟨_, _, rfl, h.os.ls, h.oe.ls⟩
theorem BxO.new {w : World} {base : Nat} {sa ea : Option Addr} {cs ce : Nat} {A : Ar} (t : TypeId) (h1 : Own w base 3 (.slice sa A.s.length cs) A.s) (h2 : Own w base 2 (.slice ea A.e.length ce) A.e) (hb : base ≤ w.heap.size) : BxO (w.alloc (.cells #[.int .i64 A.k, .slice sa A.s.length cs, .slice ea A.e.length ce] t)) w.heap.size base sa ea cs ce A := by
  obtain ⟨a0, a1, a2⟩ := cell_two w (.int .i64 A.k) (.slice sa A.s.length cs) (.slice ea A.e.length ce) t
  exact ⟨a0, a1, a2, h1.fr ((Chg.refl _ _).alloc _), h2.fr ((Chg.refl _ _).alloc _), fun q hq => hq.elim (h1.lt q) (h2.lt q), hb⟩
theorem red_len (f : Int) (A : Ar) (hs : A.s.length ≤ 100) : (redA f A).s.length ≤ 1000000 ∧ (redA f A).e.length ≤ 1000000 := by
  unfold redA
  by_cases h : redE f A = 0
  · rw [if_pos h]
    have hf : shB A.s.dropLast = true := by
      unfold redE at h
      by_cases h0 : fineE f A = 0
      · rw [if_pos h0] at h
        cases hsf : shB A.s.dropLast with
        | true => rfl
        | false => rw [hsf] at h; simp at h
      · rw [if_neg h0] at h; exact absurd h h0
    have := (shB_iff.1 hf).2.2
    simp only [tabV_length, List.length_dropLast]
    unfold frN
    omega
  · rw [if_neg h]
    simp [noA]
theorem scn_len (f : Int) (A : Ar) (hs : A.s.length ≤ 100) (he : A.e.length ≤ 300) : (scnA f A).s.length ≤ 1000000 ∧ (scnA f A).e.length ≤ 1000000 := by
  unfold scnA
  by_cases h : scnE f A = 0
  · rw [if_pos h]
    simp only [tabV_length]
    omega
  · rw [if_neg h]
    simp [noA]
theorem grt1_not {m : Nat} {A : Ar} (h : grt1 m A = false) : A.e.length ≤ m ∧ A.s.length ≤ 100 := by
  unfold grt1 at h
  simp only [Bool.or_eq_false_iff, decide_eq_false_iff_not] at h
  omega
end Go.Proofs.Ytjmlekdgipinfaa
