/- Payloads that came in; great; Same. -/
import Derived.Test.YtpiboaoifcajdaaNtY
import Derived.Test.YtpiboaoifcajdaaOpen
import Derived.Deep.Slices
namespace Go.Proofs.Ytpiboaoifcajdaa
open Go.ChangeShapes Go.WideShapes Go.ChangeAt Go.RowKit Go.Shelf

theorem open_bytes1 {H : Type} {enc : TypeId × Value → H} {W : World} {fuel : Nat} {u : Value} {x : DataW H × List MemPlace} (h : DataW.trod enc Try.prog W 0 (fun _ => true) true fuel 24 [u] = some x) : ∃ xs : List UInt8, Sl W u (xs.map B) := by
  rcases open_ints Try.underlying24 Try.underlying5 (by kernel_rfl) h with ⟨hcs, _⟩ | ⟨x, l, c, zs, hcs, _, hl, hm, hz, _, hcell, hwz⟩
  · simp at hcs
    subst hcs
    exact ⟨[], ⟨⟨none, 0, rfl, Nat.le_refl _, Nat.zero_le _, fun _ => rfl⟩, fun j u hu => by simp at hu⟩⟩
  · simp at hcs
    subst hcs
    have hz' : zs.length = c := by simpa using hz
    have hlen : (((zs.take l).map fun z => UInt8.ofNat z.toNat).map B).length = l := by simp; omega
    refine ⟨_, ⟨⟨some x, c, by rw [hlen], by rw [hlen]; exact hl, hm, fun h => (by cases h)⟩, fun j u hu => ?_⟩⟩
    rw [hlen]
    have hj : j < l := by
      have := (List.getElem?_eq_some_iff.1 hu).1
      omega
    have hc := hcell j (by omega)
    obtain ⟨b, o, sp⟩ := x
    have hspot : sp = none := by
      have h0 := hcell 0 (by omega)
      simp only [Addr.add, if_pos] at h0
      unfold World.cell? at h0
      cases sp with
      | none => rfl
      | some q => split at h0 <;> simp at h0
    subst hspot
    refine ⟨b, o, c, rfl, ?_⟩
    rw [Addr.add_lit] at hc
    rw [hc]
    have hjz : j < zs.length := by omega
    simp only [List.map_map, List.getElem?_map, List.getElem?_take, if_pos hj, List.getElem?_eq_getElem hjz, Option.map_some, Function.comp] at hu
    rw [← Option.some.inj hu, List.getD_eq_getElem?_getD, List.getElem?_eq_getElem hjz, Option.getD_some]
    exact congrArg some (byte_of_wf (hwz _ (List.getElem_mem hjz)))
theorem cell_spot' {W : World} {a : Addr} {v : Value} (h : W.cell? a = some v) : a.spot = none := by
  unfold World.cell? at h
  obtain ⟨b, o, sp⟩ := a
  cases sp with
  | none => rfl
  | some q => split at h <;> simp at h
theorem open_payloads {H : Type} {enc : TypeId × Value → H} {W : World} {base : Nat} {v : Value} {d : DataW H} {p : List MemPlace} (hv : Value.okWide Try.prog W .any base 36 v)
    (h : DataW.Trod enc Try.prog W 0 (fun _ => true) true 36 v d p) : ∃ ps : List (List UInt8), Pay W v ps := by
  obtain ⟨a0, len, cap, rfl⟩ := okWide_slice und_pays hv
  obtain ⟨fuel, hf⟩ := h
  rcases Go.Deep.open_slice1 und_pays (by kernel_rfl) hf with ⟨hcs, _⟩ | ⟨a, l, c, m, n, V, D, Pl, hcs, _, hl, hmx, hmm, _, hcell⟩
  · simp [Value.cells] at hcs
    obtain ⟨rfl, rfl, rfl⟩ := hcs
    exact ⟨[], pay_nil _⟩
  · simp [Value.cells] at hcs
    obtain ⟨rfl, rfl, rfl⟩ := hcs
    have hmc : len ≤ m := by rw [hmm]; simp; omega
    have each : ∀ i, i < len → ∃ xs : List UInt8, Sl W (V i) (xs.map B) := fun i hi => open_bytes1 (hcell i (by omega)).2
    obtain ⟨Y, hY⟩ := Go.Deep.choose_lt each
    have hlen : ((List.range len).map V).length = len := by simp
    refine ⟨(List.range len).map Y, (List.range len).map V, ⟨⟨some a, cap, by rw [hlen], by rw [hlen]; exact hl, hmx, fun e => (by cases e)⟩, fun j u hu => ?_⟩, by simp, fun j u xs hu hx => ?_⟩
    · rw [hlen]
      have hj : j < len := by have := (List.getElem?_eq_some_iff.1 hu).1; simpa using this
      have hc := (hcell j (by omega)).1
      have hc0 := (hcell 0 (by omega)).1
      obtain ⟨b, o, sp⟩ := a
      have hspot : sp = none := cell_spot' (by simpa [Addr.add] using hc0)
      subst hspot
      refine ⟨b, o, cap, rfl, ?_⟩
      rw [Addr.add_lit] at hc
      rw [hc]
      rw [List.getElem?_map, List.getElem?_range hj] at hu
      exact congrArg some (Option.some.inj hu)
    · have hj : j < len := by have := (List.getElem?_eq_some_iff.1 hu).1; simpa using this
      simp [hj] at hu hx
      subst hu hx
      exact hY j hj
def greatTo (ps : List (List UInt8)) (k : Nat) : Bool := (ps.take k).any fun x => decide (100 < x.length)
/-- Whether payloads are too many, or too long. -/
def greatB (ps : List (List UInt8)) : Bool := decide (150 < ps.length) || ps.any fun x => decide (100 < x.length)
set_option maxRecDepth 100000 in
theorem great9_any (v : Value) (ps : List (List UInt8)) (w : World) (hP : Pay w v ps) : Calls Try.prog 14 #[v] w (fun e w' => e = .returned (.bool (greatB ps)) ∧ w' = w) := by
  obtain ⟨vs, hv1, hv2, hv3⟩ := hP
  obtain ⟨ao, c, rfl, r1, r2, _⟩ := hv1.form
  unfold maxLen at r2
  have HV := Lib.hid hv1
  have H2 := Lib.hid hv2
  have H3 := Lib.hid hv3
  by_cases h150 : 150 < vs.length
  · have hg : greatB ps = true := by unfold greatB; rw [decide_eq_true (by omega)]; rfl
    rw [hg]
    have h150' : (150 : Int) < (vs.length : Int) := by omega
    clear hv1 hv2 hv3
    go_enter Try.func14, Try.ntmps14
    go_wp2
    go_ret
    exact ⟨rfl, rfl⟩
  · have h150' : ¬ (150 : Int) < (vs.length : Int) := by omega
    clear hv1 hv2 hv3
    go_enter Try.func14, Try.ntmps14
    go_wp2
    go_loopw [9] (fun i wr => ∃ k : Nat, k ≤ vs.length ∧ i = .int .i64 k ∧ greatTo ps k = false ∧ w = wr) (fun i _ => vs.length - (intOf i).toNat)
    case atStart => exact ⟨0, Nat.zero_le _, rfl, rfl, rfl⟩
    case round =>
      obtain ⟨k, hk, rfl, hany, rfl⟩ := hrel
      by_cases hlt : k < vs.length
      · have hlt' : (k : Int) < (vs.length : Int) := by omega
        have hkw : IntKind.i64.wrap ((k : Int) + 1) = (k : Int) + 1 := IntWalk.i64_in _ (by omega)
        have hlp : k < ps.length := by have := H2.out; omega
        obtain ⟨xs, hxs⟩ : ∃ xs, ps[k]? = some xs := ⟨_, List.getElem?_eq_getElem hlp⟩
        obtain ⟨u, hu⟩ : ∃ u, vs[k]? = some u := ⟨_, List.getElem?_eq_getElem hlt⟩
        obtain ⟨b, o, c', e1, hcell⟩ := HV.out.cells k u hu
        obtain ⟨au, cu, hu4, _⟩ := (H3.out k u xs hu hxs).form
        rw [List.length_map] at hu4
        injection e1 with e1 e2 e3
        clear e2 e3
        subst e1 hu4
        have hcut : greatTo ps (k + 1) = decide (100 < xs.length) := by
          unfold greatTo at hany ⊢
          rw [List.take_add_one, hxs, List.any_append, hany]
          simp
        by_cases hx : 100 < xs.length
        · have hx' : (100 : Int) < (xs.length : Int) := by omega
          have hg : greatB ps = true := by
            unfold greatB
            rw [List.any_eq_true.2 ⟨xs, List.mem_of_getElem? hxs, decide_eq_true hx⟩, Bool.or_true]
          clear hcut hany hu hxs
          have HG := Lib.hid hg
          clear hg
          go_wp2
          go_ret
          exact ⟨by rw [HG.out]; rfl, rfl⟩
        · have hx' : ¬ (100 : Int) < (xs.length : Int) := by omega
          rw [decide_eq_false hx] at hcut
          have HC := Lib.hid hcut
          clear hcut hany hu hxs
          go_wp2
          exact ⟨⟨k + 1, hlt, congrArg _ (by omega), HC.out, trivial⟩, fit_meas k vs.length hlt⟩
      · obtain rfl : k = vs.length := by omega
        unfold greatTo at hany
        rw [List.take_of_length_le (by have := H2.out; omega)] at hany
        have hg : greatB ps = false := by unfold greatB; rw [hany, decide_eq_false (by have := H2.out; omega)]; rfl
        have HG := Lib.hid hg
        clear hany hg
        go_wp2
        go_ret
        exact ⟨by rw [HG.out]; rfl, rfl⟩
end Go.Proofs.Ytpiboaoifcajdaa
