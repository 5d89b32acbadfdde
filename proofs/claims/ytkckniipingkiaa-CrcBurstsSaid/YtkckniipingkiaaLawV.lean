/- CrcBursts: any bytes, place, and bits. -/
import Derived.Test.YtkckniipingkiaaLawU
namespace Go.Proofs.Ytkckniipingkiaa
open Go.RowKit

theorem crcBursts_walk (va : Value) (xs : List UInt8) (a t : Int) (W : World) (hS : Sl W va (xs.map B)) (ha : (Lit.int .u16 a).wf = true) (ht : (Lit.int .u32 t).wf = true) : Calls Try.prog 6 #[va, .int .u16 a, .int .u32 t] W (True_ W) := by
  obtain ⟨a1, a2⟩ := wf_u16' ha
  obtain ⟨t1, t2⟩ := wf_u32' ht
  obtain ⟨a, rfl⟩ := Int.eq_ofNat_of_zero_le a1
  obtain ⟨t, rfl⟩ := Int.eq_ofNat_of_zero_le t1
  obtain ⟨ao, c, rfl, _⟩ := hS.form
  rw [List.length_map] at hS
  rw [List.length_map]
  by_cases h : (2000 : Int) < xs.length
  · exact crcBursts_big xs.length c ao a t W h
  · exact crcBursts_main ao c xs.length xs a t W rfl hS h (by omega) (by omega)
end Go.Proofs.Ytkckniipingkiaa
