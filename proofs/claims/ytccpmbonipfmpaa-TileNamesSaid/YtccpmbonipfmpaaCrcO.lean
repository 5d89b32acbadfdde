/- The sum of bytes; the chapter's first example. -/
import Derived.Test.YtccpmbonipfmpaaCrcK
import Derived.Lib.SlBytesConst
namespace Go.Proofs.Ytccpmbonipfmpaa
open Go.RowKit Go.Shelf

set_option maxHeartbeats 400000 in
theorem of_any (u : Value) (xs : List UInt8) (w : World) (hS : Sl w u (xs.map B)) (hl : xs.length ≤ 140737488355328) :
    Calls Try.prog 43 #[u] w (Gave w (.int .u32 (moreN 0 xs : Nat))) := by
  obtain ⟨m, hm⟩ : ∃ m, moreN 0 xs = m := ⟨_, rfl⟩
  have h := more_any 0 u xs w (Nat.zero_lt_succ _) hS hl
  rw [hm] at h ⊢
  clear hm
  obtain ⟨ao, c, rfl, _⟩ := hS.form
  rw [Int.natCast_zero, List.length_map] at h
  rw [List.length_map]
  clear hS
  go_enter Try.func43, Try.ntmps43
  go_wp2_with fail
  refine h.mono ?_
  rintro e w1 ⟨rfl, hC⟩
  go_wp2
  go_ret
  exact ⟨rfl, hC⟩

/-- A slice that is laid out, in new memory. -/
theorem Sl.lit (w : World) (l : List Value) (t : TypeId) (h : l.length ≤ maxLen) : Sl (w.alloc (.cells l.toArray t)) (.slice (some ⟨w.heap.size, 0, none⟩) l.length l.length) l :=
  ⟨⟨_, _, rfl, Nat.le_refl _, h, fun e => by cases e⟩, fun j u hu => ⟨_, _, _, rfl, by rw [Nat.zero_add]; exact new_cell w _ t (by simpa using hu)⟩⟩
theorem Sl.nil (w : World) : Sl w (.slice none 0 0) [] := ⟨⟨none, 0, rfl, Nat.le_refl _, Nat.zero_le _, fun _ => rfl⟩, fun j u hu => by simp at hu⟩

/-- The bytes of a constant text, in new memory. -/
theorem Sl.mark (w : World) (l : List Value) (t : TypeId) (m : Nat × Nat) (h : l.length ≤ maxLen) : Sl (w.alloc (.cells l.toArray t m)) (.slice (some ⟨w.heap.size, 0, none⟩) l.length l.length) l := by
  refine ⟨⟨_, _, rfl, Nat.le_refl _, h, fun e => by cases e⟩, fun j u hu => ⟨_, _, _, rfl, ?_⟩⟩
  have h1 : l.toArray[j]? = some u := by simpa using hu
  rw [Nat.zero_add]
  show (match (w.heap.push (.cells l.toArray t m))[w.heap.size]? with | some (.cells c _ _) => c[j]? | _ => none) = _
  simp [h1]

end Go.Proofs.Ytccpmbonipfmpaa
