/- Arguments, opened. -/
import Derived.Test.YtpiboaoifcajdaaOctW
import Derived.ProofKit
import Derived.OpenShut
import Derived.Deep.Slices
import Derived.SizedLaws
namespace Go.Proofs.Ytpiboaoifcajdaa
open Go.ChangeShapes Go.WideShapes Go.ChangeAt Go.RowKit
open Go.ChangeMaps (open_string shut_string)

theorem byte_of_wf {z : Int} (h : (Lit.int .u8 z).wf = true) : Value.int .u8 z = B (UInt8.ofNat z.toNat) := by
  have hb := wf_u8' h
  obtain ⟨n, rfl⟩ := Int.eq_ofNat_of_zero_le hb.1
  rw [B_ofNat, IntKind.wrap_u8, Int.toNat_natCast]
  congr 1
  omega

theorem weightsAll_mem {H : Type} {P : Program} {e : TypeId} {l : List (DataW H)} {d : DataW H} (hd : d ∈ l) : ∀ n ∈ d.weights P e, n ∈ DataW.weightsAll P e l := by
  intro n hn
  induction l with
  | nil => cases hd
  | cons d' r ih =>
    simp only [DataW.weightsAll, List.mem_append]
    rcases List.mem_cons.1 hd with rfl | h
    · exact Or.inl hn
    · exact Or.inr (ih h)

/-- A slice of bytes that came in. -/
theorem open_bytes {H : Type} {enc : TypeId × Value → H} {W : World} {base : Nat} {v : Value} {d : DataW H} {p : List MemPlace} (hv : Value.okWide Try.prog W .any base 24 v)
    (h : DataW.Trod enc Try.prog W 0 (fun _ => true) true 24 v d p) : ∃ xs : List UInt8, Sl W v (xs.map B) := by
  obtain ⟨a0, len, cap, rfl⟩ := okWide_slice Try.underlying24 hv
  obtain ⟨fuel, hf⟩ := h
  rcases open_ints Try.underlying24 Try.underlying5 (by kernel_rfl) hf with ⟨hcs, _⟩ | ⟨x, l, c, zs, hcs, _, hl, hm, hz, _, hcell, hwz⟩
  · simp [Value.cells] at hcs
    obtain ⟨rfl, rfl, rfl⟩ := hcs
    exact ⟨[], ⟨⟨none, 0, rfl, Nat.le_refl _, Nat.zero_le _, fun _ => rfl⟩, fun j u hu => by simp at hu⟩⟩
  · simp [Value.cells] at hcs
    obtain ⟨rfl, rfl, rfl⟩ := hcs
    have hz' : zs.length = cap := by simpa using hz
    have hlen : (((zs.take len).map fun z => UInt8.ofNat z.toNat).map B).length = len := by simp; omega
    refine ⟨_, ⟨⟨some x, cap, by rw [hlen], by rw [hlen]; exact hl, hm, fun h => (by cases h)⟩, fun j u hu => ?_⟩⟩
    rw [hlen]
    have hj : j < len := by
      have := (List.getElem?_eq_some_iff.1 hu).1
      omega
    have hc := hcell j (by omega)
    obtain ⟨b, o, sp⟩ := x
    have hspot : sp = none := by
      have h0 := hcell 0 (by omega)
      simp only [Addr.add, if_pos] at h0
      unfold World.cell? at h0
      cases sp with
      | none => rfl
      | some q => split at h0 <;> simp at h0
    subst hspot
    refine ⟨b, o, cap, rfl, ?_⟩
    rw [Addr.add_lit] at hc
    rw [hc]
    have hjz : j < zs.length := by omega
    simp only [List.map_map, List.getElem?_map, List.getElem?_take, if_pos hj, List.getElem?_eq_getElem hjz, Option.map_some, Function.comp] at hu
    rw [← Option.some.inj hu, List.getD_eq_getElem?_getD, List.getElem?_eq_getElem hjz, Option.getD_some]
    exact congrArg some (byte_of_wf (hwz _ (List.getElem_mem hjz)))

end Go.Proofs.Ytpiboaoifcajdaa
