/- Calls on none: of a nil writer, a nil reader, and a reader that is no reader; bytes that are laid out. -/
import Derived.Test.YtjinbjbcfmhnmaaOctQ
namespace Go.Proofs.Ytjinbjbcfmhnmaa
open Go.RowKit

/-- A slice that is laid out, in new memory. -/
theorem Sl.lit (w : World) (l : List Value) (t : TypeId) (h : l.length ≤ maxLen) : Sl (w.alloc (.cells l.toArray t)) (.slice (some ⟨w.heap.size, 0, none⟩) l.length l.length) l :=
  ⟨⟨_, _, rfl, Nat.le_refl _, h, fun e => by cases e⟩, fun j u hu => ⟨_, _, _, rfl, by rw [Nat.zero_add]; exact new_cell w _ t (by simpa using hu)⟩⟩

theorem wnum_none (s n : Int) (w : World) : Calls Try.prog 10 #[.pointer none, .int .i64 s, .int .u64 n] w fun e w' => e = .returned (.int .i64 1) ∧ w = w' := by
  go_enter Try.func10, Try.ntmps10
  go_wp2
  go_ret
  exact ⟨rfl, rfl⟩
theorem wint_none (n : Int) (w : World) : Calls Try.prog 14 #[.pointer none, .int .i64 n] w fun e w' => e = .returned (.int .i64 1) ∧ w = w' := by
  have h := wnum_none 8 (IntKind.u64.wrap n) w
  go_enter Try.func14, Try.ntmps14
  go_wp2_with fail
  refine h.mono ?_
  rintro e w' ⟨rfl, rfl⟩
  go_wp2
  go_ret
  exact ⟨rfl, rfl⟩
theorem wtext_none (s : ByteArray) (w : World) : Calls Try.prog 16 #[.pointer none, .string s] w fun e w' => e = .returned (.int .i64 1) ∧ w = w' := by
  go_enter Try.func16, Try.ntmps16
  go_wp2
  go_ret
  exact ⟨rfl, rfl⟩
theorem wraw_none (v : Value) (w : World) : Calls Try.prog 18 #[.pointer none, v] w fun e w' => e = .returned (.int .i64 1) ∧ w = w' := by
  go_enter Try.func18, Try.ntmps18
  go_wp2
  go_ret
  exact ⟨rfl, rfl⟩
theorem wlen_none (w : World) : Calls Try.prog 19 #[.pointer none] w fun e w' => e = .returned (.int .i64 0) ∧ w = w' := by
  go_enter Try.func19, Try.ntmps19
  go_wp2
  go_ret
  exact ⟨rfl, rfl⟩
theorem wbytes_none (w : World) : Calls Try.prog 11 #[.pointer none] w fun e w' => e = .returned (.slice none 0 0) ∧ w = w' := by
  go_enter Try.func11, Try.ntmps11
  go_wp2
  go_ret
  exact ⟨rfl, rfl⟩

/-- No reader. -/
def NoR (w : World) (p : Option Addr) : Prop := p = none ∨ ∃ b, p = some ⟨b, 0, none⟩ ∧ w.cell? ⟨b, 2, none⟩ = some (.bool false)

theorem rnone_none (p : Option Addr) (w : World) (h : NoR w p) : Calls Try.prog 35 #[.pointer p] w fun e w' => e = .returned (.bool true) ∧ w = w' := by
  rcases h with rfl | ⟨b, rfl, hc⟩
  · go_enter Try.func35, Try.ntmps35
    go_wp2
    go_ret
    exact ⟨rfl, rfl⟩
  · go_enter Try.func35, Try.ntmps35
    go_wp2
    go_ret
    exact ⟨rfl, rfl⟩

theorem rnum_none (s : Int) (p : Option Addr) (w : World) (h : NoR w p) : Calls Try.prog 21 #[.pointer p, .int .i64 s] w fun e w' => e = .returned (.tuple #[.int .u64 0, .int .i64 1]) ∧ w = w' := by
  have h' := rnone_none p w h
  go_enter Try.func21, Try.ntmps21
  go_wp2_with fail
  refine h'.mono ?_
  rintro e w' ⟨rfl, rfl⟩
  go_wp2
  go_ret2
  exact ⟨rfl, rfl⟩
theorem rtext_none (p : Option Addr) (w : World) (h : NoR w p) : Calls Try.prog 24 #[.pointer p] w fun e w' => e = .returned (.tuple #[.string ⟨#[]⟩, .int .i64 1]) ∧ w = w' := by
  have h' := rnone_none p w h
  go_enter Try.func24, Try.ntmps24
  go_wp2_with fail
  refine h'.mono ?_
  rintro e w' ⟨rfl, rfl⟩
  go_wp2
  go_ret2
  exact ⟨rfl, rfl⟩
theorem rraw_none (n : Int) (p : Option Addr) (w : World) (h : NoR w p) : Calls Try.prog 26 #[.pointer p, .int .i64 n] w fun e w' => e = .returned (.tuple #[.slice none 0 0, .int .i64 1]) ∧ w = w' := by
  have h' := rnone_none p w h
  go_enter Try.func26, Try.ntmps26
  go_wp2_with fail
  refine h'.mono ?_
  rintro e w' ⟨rfl, rfl⟩
  go_wp2
  go_ret2
  exact ⟨rfl, rfl⟩
theorem rleft_none (p : Option Addr) (w : World) (h : NoR w p) : Calls Try.prog 28 #[.pointer p] w fun e w' => e = .returned (.int .i64 0) ∧ w = w' := by
  have h' := rnone_none p w h
  go_enter Try.func28, Try.ntmps28
  go_wp2_with fail
  refine h'.mono ?_
  rintro e w' ⟨rfl, rfl⟩
  go_wp2
  go_ret
  exact ⟨rfl, rfl⟩
theorem rend_none (p : Option Addr) (w : World) (h : NoR w p) : Calls Try.prog 29 #[.pointer p] w fun e w' => e = .returned (.int .i64 1) ∧ w = w' := by
  have h' := rnone_none p w h
  go_enter Try.func29, Try.ntmps29
  go_wp2_with fail
  refine h'.mono ?_
  rintro e w' ⟨rfl, rfl⟩
  go_wp2
  go_ret
  exact ⟨rfl, rfl⟩
theorem rint_none (p : Option Addr) (w : World) (h : NoR w p) : Calls Try.prog 23 #[.pointer p] w fun e w' => e = .returned (.tuple #[.int .i64 0, .int .i64 1]) ∧ w = w' := by
  have h' := rnum_none 8 p w h
  go_enter Try.func23, Try.ntmps23
  go_wp2_with fail
  refine h'.mono ?_
  rintro e w' ⟨rfl, rfl⟩
  go_wp2
  go_ret2
  exact ⟨rfl, rfl⟩
end Go.Proofs.Ytjinbjbcfmhnmaa
