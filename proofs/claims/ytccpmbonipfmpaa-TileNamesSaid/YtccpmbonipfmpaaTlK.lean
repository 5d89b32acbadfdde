/- TileApart: any two tiles, and sectors. -/
import Derived.Test.YtccpmbonipfmpaaTlJ
namespace Go.Proofs.Ytccpmbonipfmpaa
open Go.ChangeShapes Go.WideShapes Go.ChangeAt Go.RowKit

def TileOk (W : World) (f n k : Int) (v : Value) (l : List Int) : Prop := In64 f ∧ In64 n ∧ In64 k ∧ Sl W v (l.map I) ∧ ∀ x ∈ l, In64 x
theorem open_tile {H : Type} {enc : TypeId × Value → H} {W : World} {base : Nat} {v : Value} {d : DataW H} {p : List MemPlace} (hv : Value.okWide Try.prog W .any base 24 v)
    (h : DataW.Trod enc Try.prog W 0 (fun _ => true) true 24 v d p) : ∃ f n k u l, v = tileV f n k u ∧ TileOk W f n k u l := by
  obtain ⟨cs, rfl, hsz⟩ := okWide_struct Try.underlying24 hv
  obtain ⟨fuel, hf0⟩ := h
  have hsz' : cs.toList.length = 4 := by
    have c4 : Try.prog.cellsOf 24 = 4 := by kernel_rfl
    rw [c4] at hsz
    simpa using hsz
  obtain ⟨l, hl⟩ : ∃ l, cs.toList = l := ⟨_, rfl⟩
  have hcs : cs = l.toArray := by rw [← hl]
  subst hcs
  clear hl
  rw [show (Value.agg l.toArray).cells.toList = l by simp [Value.cells]] at hf0
  obtain ⟨xs, k, hk, _, _, hxl, hf⟩ := DataW.trod_struct Try.underlying24 hf0
  match xs, hxl, l, hsz' with
  | [y0, y1, y2, y3], _, [v0, v1, v2, v3], _ =>
    have g0 := hf 0 _ rfl
    have g1 := hf 1 _ rfl
    have g2 := hf 2 _ rfl
    have g3 := hf 3 _ rfl
    have ci : Try.prog.cellsOf 3 = 1 := by kernel_rfl
    have cj : Try.prog.cellsOf 2 = 1 := by kernel_rfl
    have cl : Try.prog.cellsOf 22 = 1 := by kernel_rfl
    simp [ci, cj, cl] at g0 g1 g2 g3
    obtain ⟨q0, r0, _, w0⟩ := DataW.trod_int Try.underlying2 g0
    obtain ⟨q1, r1, _, w1⟩ := DataW.trod_int Try.underlying3 g1
    obtain ⟨q2, r2, _, w2⟩ := DataW.trod_int Try.underlying3 g2
    injection r0 with r0 _
    injection r1 with r1 _
    injection r2 with r2 _
    subst r0 r1 r2
    rcases open_ints Try.underlying22 Try.underlying2 (by kernel_rfl) g3 with ⟨hcs, _⟩ | ⟨x, ln, c, zs, hcs, _, hl, hm, hz, _, hcell, hwz⟩
    · injection hcs with hcs _
      subst hcs
      exact ⟨q0, q1, q2, .slice none 0 0, [], rfl, wf_i64' w0, wf_i64' w1, wf_i64' w2, ⟨⟨none, 0, rfl, Nat.le_refl _, Nat.zero_le _, fun _ => rfl⟩, fun j u hu => by simp at hu⟩, fun x hx => by cases hx⟩
    · injection hcs with hcs _
      subst hcs
      have hz' : zs.length = c := by simpa using hz
      have hlen : ((zs.take ln).map I).length = ln := by simp; omega
      refine ⟨q0, q1, q2, .slice (some x) ln c, zs.take ln, rfl, wf_i64' w0, wf_i64' w1, wf_i64' w2, ⟨⟨some x, c, by rw [hlen], by rw [hlen]; exact hl, hm, fun h => (by cases h)⟩, fun j u hu => ?_⟩, fun z hz => wf_i64' (hwz z (List.mem_of_mem_take hz))⟩
      rw [hlen]
      have hj : j < ln := by
        have := (List.getElem?_eq_some_iff.1 hu).1
        omega
      have hc := hcell j (by omega)
      obtain ⟨b, o, sp⟩ := x
      have hspot : sp = none := by
        have h0 := hcell 0 (by omega)
        simp only [Addr.add, if_pos] at h0
        unfold World.cell? at h0
        cases sp with
        | none => rfl
        | some q => split at h0 <;> simp at h0
      subst hspot
      refine ⟨b, o, c, rfl, ?_⟩
      rw [Addr.add_lit] at hc
      rw [hc]
      have hjz : j < zs.length := by omega
      simp only [List.getElem?_map, List.getElem?_take, if_pos hj, List.getElem?_eq_getElem hjz, Option.map_some] at hu
      rw [← Option.some.inj hu, List.getD_eq_getElem?_getD, List.getElem?_eq_getElem hjz, Option.getD_some]
      rfl
theorem tileApart_walk (f1 n1 k1 : Int) (v1 : Value) (l1 : List Int) (f2 n2 k2 : Int) (v2 : Value) (l2 : List Int) (s : Int) (W : World) (h1 : TileOk W f1 n1 k1 v1 l1) (h2 : TileOk W f2 n2 k2 v2 l2) (_ : (Lit.int .i64 s).wf = true) :
    Calls Try.prog 4 #[tileV f1 n1 k1 v1, tileV f2 n2 k2 v2, .int .i64 s] W (True_ W) := by
  obtain ⟨i1, _, _, hS1, hx1⟩ := h1
  obtain ⟨i2, _, _, hS2, hx2⟩ := h2
  obtain ⟨a1, d1, rfl, _⟩ := hS1.form
  obtain ⟨a2, d2, rfl, _⟩ := hS2.form
  rw [List.length_map] at hS1 hS2
  unfold tileV
  rw [List.length_map, List.length_map]
  by_cases b1 : (1500 : Int) < l1.length
  · exact apart_big1 f1 n1 k1 f2 n2 k2 s a1 a2 _ d1 _ d2 W b1
  by_cases b2 : (1500 : Int) < l2.length
  · exact apart_big2 f1 n1 k1 f2 n2 k2 s a1 a2 _ d1 _ d2 W b1 b2
  have e1 := fun w' (hC : Chg (fun _ => False) W w') => tencode_any f1 n1 k1 s _ l1 w' (hS1.fr hC) (by omega)
  have e2 := fun w' (hC : Chg (fun _ => False) W w') => tencode_any f2 n2 k2 s _ l2 w' (hS2.fr hC) (by omega)
  have e3 := fun w' (hC : Chg (fun _ => False) W w') => tencode_any f2 n1 k1 s _ l1 w' (hS1.fr hC) (by omega)
  have hsm := fun w' (hC : Chg (fun _ => False) W w') => same_any f1 n1 k1 f2 n2 k2 _ _ l1 l2 w' (hS1.fr hC) (hS2.fr hC) (by omega)
  unfold checkE at e1 e2 e3
  cases c1 : checkB f1 n1 k1 l1 s with
  | false =>
    rw [c1] at e1
    exact apart_err1 f1 n1 k1 f2 n2 k2 s a1 a2 _ d1 _ d2 W b1 b2 _ _ _ e1 e2
  | true =>
    rw [c1] at e1
    cases c2 : checkB f2 n2 k2 l2 s with
    | false =>
      rw [c2] at e2
      exact apart_err2 f1 n1 k1 f2 n2 k2 s a1 a2 _ d1 _ d2 W b1 b2 _ _ e1 e2
    | true =>
      rw [c2] at e2
      have c3 := check_file c1 (check_bounds c2).2.1
      rw [c3] at e3
      have hfb := tile_inj f1 f2 n1 n1 k1 k1 s l1 l1 i1 i2 hx1 hx1 c1 c3
      rw [show sameB f1 n1 k1 l1 f2 n1 k1 l1 = (f1 == f2) by unfold sameB; simp] at hfb
      exact apart_main f1 n1 k1 f2 n2 k2 s a1 a2 _ d1 _ d2 W b1 b2 _ _ _ _ _ e1 e2 e3 hsm (tile_inj f1 f2 n1 n2 k1 k2 s l1 l2 i1 i2 hx1 hx2 c1 c2) hfb rfl
end Go.Proofs.Ytccpmbonipfmpaa
