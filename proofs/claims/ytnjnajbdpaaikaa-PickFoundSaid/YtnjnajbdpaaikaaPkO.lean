/- pick: axes in memory, and as they came in. -/
import Derived.Test.YtnjnajbdpaaikaaPkA
import Derived.Test.YtnjnajbdpaaikaaArO
namespace Go.Proofs.Ytnjnajbdpaaikaa
open Go.ChangeShapes Go.WideShapes Go.ChangeAt Go.RowKit Go.Shelf

instance : Inhabited Ax := ⟨⟨false, noA⟩⟩
/-- An axis in memory: four cells. -/
def AxAt (W : World) (b o : Nat) (x : Ax) : Prop := ∃ vs ve, (W.cell? ⟨b, o, none⟩ = some (.bool x.all) ∧ W.cell? ⟨b, o + 1, none⟩ = some (.int .i64 x.a.k) ∧ W.cell? ⟨b, o + 2, none⟩ = some vs ∧ W.cell? ⟨b, o + 3, none⟩ = some ve) ∧ Ls W vs x.a.s ∧ Ls W ve x.a.e
/-- The slice value v reads as the axes L. -/
structure Axs (W : World) (v : Value) (L : List Ax) : Prop where
  form : ∃ ao c, v = .slice ao L.length c ∧ L.length ≤ c ∧ c ≤ maxLen ∧ (ao = none → c = 0)
  cells : ∀ j (h : j < L.length), ∃ b o c, v = .slice (some ⟨b, o, none⟩) L.length c ∧ AxAt W b (o + j * 4) L[j]
theorem AxAt.fr {w w' : World} {b o : Nat} {x : Ax} (h : AxAt w b o x) (hC : Chg (fun _ => False) w w') : AxAt w' b o x := by
  obtain ⟨vs, ve, ⟨c0, c1, c2, c3⟩, h1, h2⟩ := h
  exact ⟨vs, ve, ⟨hC.cell c0 id, hC.cell c1 id, hC.cell c2 id, hC.cell c3 id⟩, h1.fr hC, h2.fr hC⟩
theorem Axs.fr {w w' : World} {v : Value} {L : List Ax} (h : Axs w v L) (hC : Chg (fun _ => False) w w') : Axs w' v L :=
  ⟨h.form, fun j hj => by obtain ⟨b, o, c, e, hx⟩ := h.cells j hj; exact ⟨b, o, c, e, hx.fr hC⟩⟩
theorem Axs.len {w : World} {v : Value} {L : List Ax} (h : Axs w v L) : L.length ≤ 9223372036854775807 := by
  obtain ⟨_, _, _, h1, h2, _⟩ := h.form
  unfold maxLen at h2
  omega
theorem Axs.nil (w : World) : Axs w (.slice none 0 0) [] := ⟨⟨none, 0, rfl, Nat.le_refl _, Nat.zero_le _, fun _ => rfl⟩, fun j hj => by simp at hj⟩
/-- An axis' numbers are those of its types. -/
def AxOk (x : Ax) : Prop := (-9223372036854775808 ≤ x.a.k ∧ x.a.k ≤ 9223372036854775807) ∧ (∀ y ∈ x.a.s, -9223372036854775808 ≤ y ∧ y ≤ 9223372036854775807) ∧ ∀ y ∈ x.a.e, -9223372036854775808 ≤ y ∧ y ≤ 9223372036854775807
def OkAxs (W : World) (v : Value) (L : List Ax) : Prop := Axs W v L ∧ ∀ x ∈ L, AxOk x
theorem cell_spot0 {W : World} {a : Addr} {v : Value} (h : W.cell? a = some v) : a.spot = none := by
  unfold World.cell? at h
  obtain ⟨b, o, sp⟩ := a
  cases sp with
  | none => rfl
  | some q => split at h <;> simp at h
set_option maxRecDepth 100000 in
theorem open_ax {H : Type} {enc : TypeId × Value → H} {W : World} {fuel : Nat} {a : Addr} {cs : List Value} {x : DataW H × List MemPlace} (h1 : W.cells? 0 a 4 = some cs)
    (h2 : DataW.trod enc Try.prog W 0 (fun _ => true) true fuel 39 cs = some x) : ∃ y : Ax, (∃ b o, a = ⟨b, o, none⟩ ∧ AxAt W b o y) ∧ AxOk y := by
  obtain ⟨_, hlen, hcell⟩ := World.cells?_some h1
  obtain ⟨xs, k, hk, rfl, _, hxl, hf⟩ := DataW.trod_struct Try.underlying39 h2
  match xs, hxl, cs, hlen with
  | [y0, y1], _, [v0, v1, v2, v3], _ =>
    have g0 := hf 0 _ rfl
    have g1 := hf 1 _ rfl
    have cb : Try.prog.cellsOf 4 = 1 := by kernel_rfl
    have ca : Try.prog.cellsOf 25 = 3 := by kernel_rfl
    simp [cb, ca] at g0 g1
    have e0 := hcell 0 (by omega)
    have e1 := hcell 1 (by omega)
    have e2 := hcell 2 (by omega)
    have e3 := hcell 3 (by omega)
    obtain ⟨q0, r0, _⟩ := DataW.trod_bool Try.underlying4 g0
    injection r0 with r0 _
    subst r0
    obtain ⟨zs, k2, hk2, _, _, hzl, hf2⟩ := DataW.trod_struct Try.underlying25 g1
    match zs, hzl with
    | [z0, z1, z2], _ =>
      have u0 := hf2 0 _ rfl
      have u1 := hf2 1 _ rfl
      have u2 := hf2 2 _ rfl
      have ci : Try.prog.cellsOf 3 = 1 := by kernel_rfl
      have cj : Try.prog.cellsOf 22 = 1 := by kernel_rfl
      have cl : Try.prog.cellsOf 23 = 1 := by kernel_rfl
      simp [ci, cj, cl] at u0 u1 u2
      obtain ⟨k0, s0, _, w0⟩ := DataW.trod_int Try.underlying3 u0
      injection s0 with s0 _
      subst s0
      obtain ⟨s, hs, hs2⟩ := open_row_shape u1
      obtain ⟨e, he, he2⟩ := open_row_longs u2
      have hsp : a.spot = none := by
        have : W.cell? a = some (.bool q0) := by simpa [Addr.add] using e0
        exact cell_spot0 this
      obtain ⟨b, o, sp⟩ := a
      simp at hsp
      subst hsp
      simp only [Addr.add_lit] at e0 e1 e2 e3
      exact ⟨⟨q0, ⟨k0, s, e⟩⟩, ⟨b, o, rfl, v2, v3, ⟨e0, e1, e2, e3⟩, hs, he⟩, wf_i64' w0, hs2, he2⟩
set_option maxRecDepth 100000 in
theorem open_axes {H : Type} {enc : TypeId × Value → H} {W : World} {base : Nat} {v : Value} {d : DataW H} {p : List MemPlace} (hv : Value.okWide Try.prog W .any base 26 v)
    (h : DataW.Trod enc Try.prog W 0 (fun _ => true) true 26 v d p) : ∃ L : List Ax, OkAxs W v L := by
  obtain ⟨a0, len, cap, rfl⟩ := okWide_slice Try.underlying26 hv
  obtain ⟨fuel, hf⟩ := h
  rcases Go.Deep.open_slice Try.underlying26 hf with ⟨hcs, _⟩ | ⟨a, l, c, m, n, D, Pl, hcs, _, hl, hmx, hmm, hx, hcell⟩
  · simp [Value.cells] at hcs
    obtain ⟨rfl, rfl, rfl⟩ := hcs
    exact ⟨[], Axs.nil _, fun x hx => by simp at hx⟩
  · simp [Value.cells] at hcs
    obtain ⟨rfl, rfl, rfl⟩ := hcs
    have c4 : Try.prog.cellsOf 39 = 4 := by kernel_rfl
    rw [c4] at hcell
    have hmc : len ≤ m := by rw [hmm]; simp; omega
    have each : ∀ i, i < len → ∃ y : Ax, (∃ b o, a.add (i * 4) = ⟨b, o, none⟩ ∧ AxAt W b o y) ∧ AxOk y := by
      intro i hi
      obtain ⟨cs', h1, h2⟩ := hcell i (by omega)
      exact open_ax h1 h2
    obtain ⟨Y, hY⟩ := Go.Deep.choose_lt each
    have hlen : ((List.range len).map Y).length = len := by simp
    refine ⟨(List.range len).map Y, ⟨⟨some a, cap, by rw [hlen], by rw [hlen]; exact hl, hmx, fun e => by cases e⟩, fun j hj => ?_⟩, fun x hx => ?_⟩
    · rw [hlen] at hj ⊢
      obtain ⟨b, o, e1, e2⟩ := (hY j hj).1
      obtain ⟨b0, o0, e3, _⟩ := (hY 0 (by omega)).1
      have e4 : a = ⟨b0, o0, none⟩ := by simpa [Addr.add] using e3
      subst e4
      rw [Addr.add_lit] at e1
      injection e1 with e5 e6 e7
      refine ⟨b0, o0, cap, rfl, ?_⟩
      rw [e5, e6]
      simpa using e2
    · obtain ⟨j, hj, rfl⟩ := List.mem_map.1 hx
      exact (hY j (List.mem_range.1 hj)).2
end Go.Proofs.Ytnjnajbdpaaikaa
