/- Arguments, opened. -/
import Derived.Test.YtjinbjbcfmhnmaaOctW
import Derived.ProofKit
import Derived.OpenShut
import Derived.Deep.Slices
import Derived.SizedLaws
namespace Go.Proofs.Ytjinbjbcfmhnmaa
open Go.ChangeShapes Go.WideShapes Go.ChangeAt Go.RowKit
open Go.ChangeMaps (open_string shut_string)

theorem byte_of_wf {z : Int} (h : (Lit.int .u8 z).wf = true) : Value.int .u8 z = B (UInt8.ofNat z.toNat) := by
  have hb := wf_u8' h
  obtain ⟨n, rfl⟩ := Int.eq_ofNat_of_zero_le hb.1
  rw [B_ofNat, IntKind.wrap_u8, Int.toNat_natCast]
  congr 1
  omega

theorem weightsAll_mem {H : Type} {P : Program} {e : TypeId} {l : List (DataW H)} {d : DataW H} (hd : d ∈ l) : ∀ n ∈ d.weights P e, n ∈ DataW.weightsAll P e l := by
  intro n hn
  induction l with
  | nil => cases hd
  | cons d' r ih =>
    simp only [DataW.weightsAll, List.mem_append]
    rcases List.mem_cons.1 hd with rfl | h
    · exact Or.inl hn
    · exact Or.inr (ih h)

/-- A slice of bytes that came in. -/
theorem open_bytes {H : Type} {enc : TypeId × Value → H} {W : World} {base : Nat} {v : Value} {d : DataW H} {p : List MemPlace} (hv : Value.okWide Try.prog W .any base 24 v)
    (h : DataW.Trod enc Try.prog W 0 (fun _ => true) true 24 v d p) : ∃ xs : List UInt8, Sl W v (xs.map B) := by
  obtain ⟨a0, len, cap, rfl⟩ := okWide_slice Try.underlying24 hv
  obtain ⟨fuel, hf⟩ := h
  rcases open_ints Try.underlying24 Try.underlying5 (by kernel_rfl) hf with ⟨hcs, _⟩ | ⟨x, l, c, zs, hcs, _, hl, hm, hz, _, hcell, hwz⟩
  · simp [Value.cells] at hcs
    obtain ⟨rfl, rfl, rfl⟩ := hcs
    exact ⟨[], ⟨⟨none, 0, rfl, Nat.le_refl _, Nat.zero_le _, fun _ => rfl⟩, fun j u hu => by simp at hu⟩⟩
  · simp [Value.cells] at hcs
    obtain ⟨rfl, rfl, rfl⟩ := hcs
    have hz' : zs.length = cap := by simpa using hz
    have hlen : (((zs.take len).map fun z => UInt8.ofNat z.toNat).map B).length = len := by simp; omega
    refine ⟨_, ⟨⟨some x, cap, by rw [hlen], by rw [hlen]; exact hl, hm, fun h => (by cases h)⟩, fun j u hu => ?_⟩⟩
    rw [hlen]
    have hj : j < len := by
      have := (List.getElem?_eq_some_iff.1 hu).1
      omega
    have hc := hcell j (by omega)
    obtain ⟨b, o, sp⟩ := x
    have hspot : sp = none := by
      have h0 := hcell 0 (by omega)
      simp only [Addr.add, if_pos] at h0
      unfold World.cell? at h0
      cases sp with
      | none => rfl
      | some q => split at h0 <;> simp at h0
    subst hspot
    refine ⟨b, o, cap, rfl, ?_⟩
    rw [Addr.add_lit] at hc
    rw [hc]
    have hjz : j < zs.length := by omega
    simp only [List.map_map, List.getElem?_map, List.getElem?_take, if_pos hj, List.getElem?_eq_getElem hjz, Option.map_some, Function.comp] at hu
    rw [← Option.some.inj hu, List.getD_eq_getElem?_getD, List.getElem?_eq_getElem hjz, Option.getD_some]
    exact congrArg some (byte_of_wf (hwz _ (List.getElem_mem hjz)))

/-- A call, as data. -/
structure OpD where
  kind : Int
  size : Int
  n : Int
  s : ByteArray

instance : Inhabited OpD := ⟨⟨0, 0, 0, ByteArray.empty⟩⟩

structure OpOk (x : OpD) : Prop where
  k1 : -9223372036854775808 ≤ x.kind
  k2 : x.kind ≤ 9223372036854775807
  z1 : -9223372036854775808 ≤ x.size
  z2 : x.size ≤ 9223372036854775807
  n1 : 0 ≤ x.n
  n2 : x.n < 18446744073709551616
  s1 : x.s.size ≤ 140737488351232

structure OpAt (W : World) (b o : Nat) (x : OpD) : Prop where
  c0 : W.cell? ⟨b, o, none⟩ = some (.int .i64 x.kind)
  c1 : W.cell? ⟨b, o + 1, none⟩ = some (.int .i64 x.size)
  c2 : W.cell? ⟨b, o + 2, none⟩ = some (.int .u64 x.n)
  c3 : W.cell? ⟨b, o + 3, none⟩ = some (.string x.s)

/-- The slice value v reads as the calls l. -/
structure Ops (W : World) (v : Value) (l : List OpD) : Prop where
  form : ∃ ao c, v = .slice ao l.length c ∧ l.length ≤ c ∧ c ≤ maxLen
  cells : ∀ j (h : j < l.length), ∃ b o c, v = .slice (some ⟨b, o, none⟩) l.length c ∧ OpAt W b (o + j * 4) l[j]
  ok : ∀ x ∈ l, OpOk x

theorem OpAt.chg {S : Nat → Prop} {w w' : World} {b o : Nat} {x : OpD} (h : OpAt w b o x) (hC : Chg S w w') (hb : ¬ S b) : OpAt w' b o x :=
  ⟨hC.cell h.c0 hb, hC.cell h.c1 hb, hC.cell h.c2 hb, hC.cell h.c3 hb⟩
theorem Ops.fr {w w' : World} {v : Value} {l : List OpD} (h : Ops w v l) (hC : Chg (fun _ => False) w w') : Ops w' v l :=
  ⟨h.form, fun j hj => by obtain ⟨b, o, c, e, hx⟩ := h.cells j hj; exact ⟨b, o, c, e, hx.chg hC id⟩, h.ok⟩

theorem cell_spot {W : World} {a : Addr} {v : Value} (h : W.cell? a = some v) : a.spot = none := by
  unfold World.cell? at h
  obtain ⟨b, o, sp⟩ := a
  cases sp with
  | none => rfl
  | some q => split at h <;> simp at h

/-- One call's cells, and how long its text is. -/
theorem open_op {H : Type} {enc : TypeId × Value → H} {W : World} {fuel : Nat} {a : Addr} {cs : List Value} {x : DataW H × List MemPlace} (h1 : W.cells? 0 a 4 = some cs)
    (h2 : DataW.trod enc Try.prog W 0 (fun _ => true) true fuel 34 cs = some x) (hm : ∀ n ∈ x.1.weights Try.prog 34, n ≤ reachBytes) :
    ∃ y : OpD, (∃ b o, a = ⟨b, o, none⟩ ∧ OpAt W b o y) ∧ OpOk y := by
  obtain ⟨_, hlen, hcell⟩ := World.cells?_some h1
  obtain ⟨xs, k, hk, rfl, _, hxl, hf⟩ := DataW.trod_struct Try.underlying34 h2
  match xs, hxl, cs, hlen with
  | [y0, y1, y2, y3], _, [v0, v1, v2, v3], _ =>
    have g0 := hf 0 _ rfl
    have g1 := hf 1 _ rfl
    have g2 := hf 2 _ rfl
    have g3 := hf 3 _ rfl
    have ci : Try.prog.cellsOf 3 = 1 := by kernel_rfl
    have cu : Try.prog.cellsOf 22 = 1 := by kernel_rfl
    have cst : Try.prog.cellsOf 9 = 1 := by kernel_rfl
    simp [ci, cu, cst] at g0 g1 g2 g3
    have e0 := hcell 0 (by omega)
    have e1 := hcell 1 (by omega)
    have e2 := hcell 2 (by omega)
    have e3 := hcell 3 (by omega)
    obtain ⟨q0, r0, _, w0⟩ := DataW.trod_int Try.underlying3 g0
    obtain ⟨q1, r1, _, w1⟩ := DataW.trod_int Try.underlying3 g1
    obtain ⟨q2, r2, _, w2⟩ := DataW.trod_int Try.underlying22 g2
    obtain ⟨q3, r3, rfl, w3⟩ := DataW.trod_string Try.underlying9 g3
    injection r0 with r0 _
    injection r1 with r1 _
    injection r2 with r2 _
    injection r3 with r3 _
    subst r0 r1 r2 r3
    have hsp : a.spot = none := by
      have : W.cell? a = some (.int .i64 q0) := by simpa [Addr.add] using e0
      exact cell_spot this
    obtain ⟨b, o, sp⟩ := a
    simp at hsp
    subst hsp
    simp only [Addr.add_lit] at e0 e1 e2 e3
    have b0 := wf_i64' w0
    have b1 := wf_i64' w1
    have b2 := wf_u64 w2
    have hs : q3.data.toList.length ≤ reachBytes := hm _ (by
      simp only [DataW.weights, Try.underlying34]
      exact DataW.weights_mem_each (j := 3) (t := 9) rfl rfl _ (by simp [DataW.weights]))
    exact ⟨⟨q0, q1, q2, q3⟩, ⟨b, o, rfl, ⟨e0, e1, e2, e3⟩⟩, ⟨b0.1, b0.2, b1.1, b1.2, b2.1, by show q2 < 18446744073709551616; omega, by
      show q3.size ≤ 140737488351232
      have : q3.size = q3.data.toList.length := by simp
      rw [this]
      exact hs⟩⟩

theorem open_ops {H : Type} {enc : TypeId × Value → H} {W : World} {base : Nat} {v : Value} {d : DataW H} {p : List MemPlace} (hv : Value.okWide Try.prog W .any base 31 v)
    (h : DataW.Trod enc Try.prog W 0 (fun _ => true) true 31 v d p) (hm : ∀ n ∈ d.weights Try.prog 31, n ≤ reachBytes) : ∃ l : List OpD, Ops W v l := by
  obtain ⟨a0, len, cap, rfl⟩ := okWide_slice Try.underlying31 hv
  obtain ⟨fuel, hf⟩ := h
  rcases Go.Deep.open_slice Try.underlying31 hf with ⟨hcs, _⟩ | ⟨a, l, c, m, n, D, Pl, hcs, _, hl, hmx, hmm, hx, hcell⟩
  · simp [Value.cells] at hcs
    obtain ⟨rfl, rfl, rfl⟩ := hcs
    exact ⟨[], ⟨⟨none, 0, rfl, Nat.le_refl _, Nat.zero_le _⟩, fun j hj => by simp at hj, fun x hx => by simp at hx⟩⟩
  · simp [Value.cells] at hcs
    obtain ⟨rfl, rfl, rfl⟩ := hcs
    have c4 : Try.prog.cellsOf 34 = 4 := by kernel_rfl
    rw [c4] at hcell
    simp only [Prod.mk.injEq] at hx
    obtain ⟨rfl, rfl⟩ := hx
    have hmc : len ≤ m := by rw [hmm]; simp; omega
    have each : ∀ i, i < len → ∃ y : OpD, (∃ b o, a.add (i * 4) = ⟨b, o, none⟩ ∧ OpAt W b o y) ∧ OpOk y := by
      intro i hi
      obtain ⟨cs', h1, h2⟩ := hcell i (by omega)
      refine open_op h1 h2 (fun q hq => hm q ?_)
      simp only [DataW.weights, Try.underlying31, List.mem_cons, List.mem_append]
      exact Or.inr (Or.inl (weightsAll_mem (List.mem_map.2 ⟨i, List.mem_range.2 hi, rfl⟩) _ hq))
    obtain ⟨Y, hY⟩ := Go.Deep.choose_lt each
    have hlen : ((List.range len).map Y).length = len := by simp
    refine ⟨(List.range len).map Y, ⟨⟨some a, cap, by rw [hlen], by rw [hlen]; exact hl, hmx⟩, fun j hj => ?_, fun x hx => ?_⟩⟩
    · rw [hlen] at hj ⊢
      obtain ⟨b, o, e1, e2⟩ := (hY j hj).1
      obtain ⟨b0, o0, e3, _⟩ := (hY 0 (by omega)).1
      have e4 : a = ⟨b0, o0, none⟩ := by simpa [Addr.add] using e3
      subst e4
      rw [Addr.add_lit] at e1
      injection e1 with e5 e6 e7
      refine ⟨b0, o0, cap, rfl, ?_⟩
      rw [e5, e6]
      simpa using e2
    · obtain ⟨j, hj, rfl⟩ := List.mem_map.1 hx
      exact (hY j (List.mem_range.1 hj)).2
end Go.Proofs.Ytjinbjbcfmhnmaa
