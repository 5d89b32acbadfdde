/- The sum of bytes; the chapter's first example. -/
import Derived.Test.YtkckniipingkiaaCrcK
import Derived.Lib.SlBytesConst
namespace Go.Proofs.Ytkckniipingkiaa
open Go.RowKit Go.Shelf

set_option maxHeartbeats 400000 in
theorem of_any (u : Value) (xs : List UInt8) (w : World) (hS : Sl w u (xs.map B)) (hl : xs.length ≤ 140737488355328) :
    Calls Try.prog 9 #[u] w (Gave w (.int .u32 (moreN 0 xs : Nat))) := by
  obtain ⟨m, hm⟩ : ∃ m, moreN 0 xs = m := ⟨_, rfl⟩
  have h := more_any 0 u xs w (Nat.zero_lt_succ _) hS hl
  rw [hm] at h ⊢
  clear hm
  obtain ⟨ao, c, rfl, _⟩ := hS.form
  rw [Int.natCast_zero, List.length_map] at h
  rw [List.length_map]
  clear hS
  go_enter Try.func9, Try.ntmps9
  go_wp2_with fail
  refine h.mono ?_
  rintro e w1 ⟨rfl, hC⟩
  go_wp2
  go_ret
  exact ⟨rfl, hC⟩

/-- A call that answers true and makes memory alone. -/
def True_ (w : World) (e : Ending) (w' : World) : Prop := e = .returned (.bool true) ∧ Chg (fun _ => False) w w'

/-- A slice that is laid out, in new memory. -/
theorem Sl.lit (w : World) (l : List Value) (t : TypeId) (h : l.length ≤ maxLen) : Sl (w.alloc (.cells l.toArray t)) (.slice (some ⟨w.heap.size, 0, none⟩) l.length l.length) l :=
  ⟨⟨_, _, rfl, Nat.le_refl _, h, fun e => by cases e⟩, fun j u hu => ⟨_, _, _, rfl, by rw [Nat.zero_add]; exact new_cell w _ t (by simpa using hu)⟩⟩
theorem Sl.nil (w : World) : Sl w (.slice none 0 0) [] := ⟨⟨none, 0, rfl, Nat.le_refl _, Nat.zero_le _, fun _ => rfl⟩, fun j u hu => by simp at hu⟩

/-- The bytes of a constant text, in new memory. -/
theorem Sl.mark (w : World) (l : List Value) (t : TypeId) (m : Nat × Nat) (h : l.length ≤ maxLen) : Sl (w.alloc (.cells l.toArray t m)) (.slice (some ⟨w.heap.size, 0, none⟩) l.length l.length) l := by
  refine ⟨⟨_, _, rfl, Nat.le_refl _, h, fun e => by cases e⟩, fun j u hu => ⟨_, _, _, rfl, ?_⟩⟩
  have h1 : l.toArray[j]? = some u := by simpa using hu
  rw [Nat.zero_add]
  show (match (w.heap.push (.cells l.toArray t m))[w.heap.size]? with | some (.cells c _ _) => c[j]? | _ => none) = _
  simp [h1]

theorem alive_sum : moreN 0 [49, 50, 51, 52, 53, 54, 55, 56, 57] = 3421780262 := by decide +kernel
theorem nil_sum : moreN 0 [] = 0 := by decide +kernel

set_option maxHeartbeats 400000 in
theorem alive_any (w : World) : Calls Try.prog 8 #[] w (True_ w) := by
  have hS : Sl (w.alloc (.cells #[.int .u8 49, .int .u8 50, .int .u8 51, .int .u8 52, .int .u8 53, .int .u8 54, .int .u8 55, .int .u8 56, .int .u8 57] 5 (9, 10))) (.slice (some ⟨w.heap.size, 0, none⟩) 9 9) (([49, 50, 51, 52, 53, 54, 55, 56, 57] : List UInt8).map B) :=
    Sl.mark w (([49, 50, 51, 52, 53, 54, 55, 56, 57] : List UInt8).map B) 5 (9, 10) (by decide)
  have hC0 := (Chg.refl (fun _ => False) w).alloc (.cells #[.int .u8 49, .int .u8 50, .int .u8 51, .int .u8 52, .int .u8 53, .int .u8 54, .int .u8 55, .int .u8 56, .int .u8 57] 5 (9, 10))
  have h1 := of_any _ _ _ hS (by decide)
  rw [alive_sum] at h1
  have hcv := fun (w : World) (C : Array Value) (n c : Nat) => Lib.run_convert_bytes_const (P := Try.prog) w 22 5 C n c Try.underlying22 Try.underlying5
  go_enter Try.func8, Try.ntmps8
  go_wp2_with fail
  refine h1.mono ?_
  rintro e w1 ⟨rfl, hC1⟩
  have h2 := of_any _ [] w1 (Sl.nil w1) (by decide)
  rw [nil_sum] at h2
  go_wp2_with fail
  refine h2.mono ?_
  rintro e w2 ⟨rfl, hC2⟩
  go_wp2
  go_ret
  exact ⟨rfl, (hC0.tr hC1).tr hC2⟩
end Go.Proofs.Ytkckniipingkiaa
