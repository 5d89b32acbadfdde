/- Arguments, opened: lists of numbers, and arrays. -/
import Derived.Test.YtnjnajbdpaaikaaArB
import Derived.ProofKit
import Derived.OpenShut
import Derived.Deep.Slices
import Derived.SizedLaws
namespace Go.Proofs.Ytnjnajbdpaaikaa
open Go.ChangeShapes Go.WideShapes Go.ChangeAt Go.RowKit

set_option maxRecDepth 100000 in
theorem open_row_longs {H : Type} {enc : TypeId × Value → H} {W : World} {fuel : Nat} {u : Value} {x : DataW H × List MemPlace} (h : DataW.trod enc Try.prog W 0 (fun _ => true) true fuel 23 [u] = some x) : ∃ xs : List Int, Ls W u xs ∧ ∀ y ∈ xs, -9223372036854775808 ≤ y ∧ y ≤ 9223372036854775807 := by
  rcases Go.ChangeShapes.open_ints Try.underlying23 Try.underlying2 (by kernel_rfl) h with ⟨hcs, _⟩ | ⟨x, ln, c, zs, hcs, _, hl, hm, hz, _, hcell, hwz⟩
  · injection hcs with hcs _
    subst hcs
    exact ⟨[], Ls.nil _, fun _ h => by cases h⟩
  · injection hcs with hcs _
    subst hcs
    have hz' : zs.length = c := by simpa using hz
    have hlen : ((zs.take ln).map I).length = ln := by simp; omega
    refine ⟨zs.take ln, ⟨⟨some x, c, by rw [hlen], by rw [hlen]; exact hl, hm, fun h => (by cases h)⟩, fun j u hu => ?_⟩, fun y hy => wf_i64' (hwz y (List.mem_of_mem_take hy))⟩
    rw [hlen]
    have hj : j < ln := by
      have := (List.getElem?_eq_some_iff.1 hu).1
      omega
    have hc := hcell j (by omega)
    obtain ⟨b, o, sp⟩ := x
    have hspot : sp = none := by
      have h0 := hcell 0 (by omega)
      simp only [Addr.add, if_pos] at h0
      unfold World.cell? at h0
      cases sp with
      | none => rfl
      | some q => split at h0 <;> simp at h0
    subst hspot
    refine ⟨b, o, c, rfl, ?_⟩
    rw [Addr.add_lit] at hc
    rw [hc]
    have hjz : j < zs.length := by omega
    simp only [List.getElem?_map, List.getElem?_take, if_pos hj, List.getElem?_eq_getElem hjz, Option.map_some] at hu
    rw [← Option.some.inj hu, List.getD_eq_getElem?_getD, List.getElem?_eq_getElem hjz, Option.getD_some]
    rfl
def Oklongs (W : World) (v : Value) (xs : List Int) : Prop := Ls W v xs ∧ ∀ y ∈ xs, -9223372036854775808 ≤ y ∧ y ≤ 9223372036854775807
set_option maxRecDepth 100000 in
theorem open_longs {H : Type} {enc : TypeId × Value → H} {W : World} {base : Nat} {v : Value} {d : DataW H} {p : List MemPlace} (hv : Value.okWide Try.prog W .any base 23 v)
    (h : DataW.Trod enc Try.prog W 0 (fun _ => true) true 23 v d p) : ∃ xs : List Int, Oklongs W v xs := by
  obtain ⟨a0, len, cap, rfl⟩ := okWide_slice Try.underlying23 hv
  obtain ⟨fuel, hf⟩ := h
  exact open_row_longs hf
set_option maxRecDepth 100000 in
theorem open_row_shape {H : Type} {enc : TypeId × Value → H} {W : World} {fuel : Nat} {u : Value} {x : DataW H × List MemPlace} (h : DataW.trod enc Try.prog W 0 (fun _ => true) true fuel 22 [u] = some x) : ∃ xs : List Int, Ls W u xs ∧ ∀ y ∈ xs, -9223372036854775808 ≤ y ∧ y ≤ 9223372036854775807 := by
  rcases Go.ChangeShapes.open_ints Try.underlying22 Try.underlying3 (by kernel_rfl) h with ⟨hcs, _⟩ | ⟨x, ln, c, zs, hcs, _, hl, hm, hz, _, hcell, hwz⟩
  · injection hcs with hcs _
    subst hcs
    exact ⟨[], Ls.nil _, fun _ h => by cases h⟩
  · injection hcs with hcs _
    subst hcs
    have hz' : zs.length = c := by simpa using hz
    have hlen : ((zs.take ln).map I).length = ln := by simp; omega
    refine ⟨zs.take ln, ⟨⟨some x, c, by rw [hlen], by rw [hlen]; exact hl, hm, fun h => (by cases h)⟩, fun j u hu => ?_⟩, fun y hy => wf_i64' (hwz y (List.mem_of_mem_take hy))⟩
    rw [hlen]
    have hj : j < ln := by
      have := (List.getElem?_eq_some_iff.1 hu).1
      omega
    have hc := hcell j (by omega)
    obtain ⟨b, o, sp⟩ := x
    have hspot : sp = none := by
      have h0 := hcell 0 (by omega)
      simp only [Addr.add, if_pos] at h0
      unfold World.cell? at h0
      cases sp with
      | none => rfl
      | some q => split at h0 <;> simp at h0
    subst hspot
    refine ⟨b, o, c, rfl, ?_⟩
    rw [Addr.add_lit] at hc
    rw [hc]
    have hjz : j < zs.length := by omega
    simp only [List.getElem?_map, List.getElem?_take, if_pos hj, List.getElem?_eq_getElem hjz, Option.map_some] at hu
    rw [← Option.some.inj hu, List.getD_eq_getElem?_getD, List.getElem?_eq_getElem hjz, Option.getD_some]
    rfl
def Okshape (W : World) (v : Value) (xs : List Int) : Prop := Ls W v xs ∧ ∀ y ∈ xs, -9223372036854775808 ≤ y ∧ y ≤ 9223372036854775807
set_option maxRecDepth 100000 in
theorem open_shape {H : Type} {enc : TypeId × Value → H} {W : World} {base : Nat} {v : Value} {d : DataW H} {p : List MemPlace} (hv : Value.okWide Try.prog W .any base 22 v)
    (h : DataW.Trod enc Try.prog W 0 (fun _ => true) true 22 v d p) : ∃ xs : List Int, Okshape W v xs := by
  obtain ⟨a0, len, cap, rfl⟩ := okWide_slice Try.underlying22 hv
  obtain ⟨fuel, hf⟩ := h
  exact open_row_shape hf
/-- An array that came in. -/
def OkArr (W : World) (v : Value) (A : Ar) : Prop := Ara W v A ∧ (-9223372036854775808 ≤ A.k ∧ A.k ≤ 9223372036854775807) ∧ (∀ y ∈ A.s, -9223372036854775808 ≤ y ∧ y ≤ 9223372036854775807) ∧ ∀ y ∈ A.e, -9223372036854775808 ≤ y ∧ y ≤ 9223372036854775807
set_option maxRecDepth 100000 in
theorem open_arr {H : Type} {enc : TypeId × Value → H} {W : World} {base : Nat} {v : Value} {d : DataW H} {p : List MemPlace} (hv : Value.okWide Try.prog W .any base 25 v)
    (h : DataW.Trod enc Try.prog W 0 (fun _ => true) true 25 v d p) : ∃ A, OkArr W v A := by
  obtain ⟨cs, rfl, hsz⟩ := okWide_struct Try.underlying25 hv
  obtain ⟨fuel, hf0⟩ := h
  have hsz' : cs.toList.length = 3 := by
    have c3 : Try.prog.cellsOf 25 = 3 := by kernel_rfl
    rw [c3] at hsz
    simpa using hsz
  obtain ⟨l, hl⟩ : ∃ l, cs.toList = l := ⟨_, rfl⟩
  have hcs : cs = l.toArray := by rw [← hl]
  subst hcs
  clear hl
  rw [show (Value.agg l.toArray).cells.toList = l by simp [Value.cells]] at hf0
  obtain ⟨xs, k, hk, _, _, hxl, hf⟩ := DataW.trod_struct Try.underlying25 hf0
  match xs, hxl, l, hsz' with
  | [y0, y1, y2], _, [v0, v1, v2], _ =>
    have g0 := hf 0 _ rfl
    have g1 := hf 1 _ rfl
    have g2 := hf 2 _ rfl
    have ci : Try.prog.cellsOf 3 = 1 := by kernel_rfl
    have cj : Try.prog.cellsOf 22 = 1 := by kernel_rfl
    have cl : Try.prog.cellsOf 23 = 1 := by kernel_rfl
    simp [ci, cj, cl] at g0 g1 g2
    obtain ⟨q0, r0, _, w0⟩ := DataW.trod_int Try.underlying3 g0
    injection r0 with r0 _
    subst r0
    obtain ⟨s, hs, hs2⟩ := open_row_shape g1
    obtain ⟨e, he, he2⟩ := open_row_longs g2
    exact ⟨⟨q0, s, e⟩, ⟨v1, v2, rfl, hs, he⟩, wf_i64' w0, hs2, he2⟩
end Go.Proofs.Ytnjnajbdpaaikaa
