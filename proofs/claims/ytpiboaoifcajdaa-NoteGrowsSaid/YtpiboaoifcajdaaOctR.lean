/- The reader: its state, and the calls that do not turn it. -/
import Derived.Test.YtpiboaoifcajdaaOctO
namespace Go.Proofs.Ytpiboaoifcajdaa
open Go.RowKit

/-- The reader in block b reads the bytes xs, from at on. -/
structure Rdr (w : World) (b : Nat) (v : Value) (xs : List UInt8) (pos : Nat) : Prop where
  c0 : w.cell? ⟨b, 0, none⟩ = some v
  c1 : w.cell? ⟨b, 1, none⟩ = some (.int .i64 pos)
  c2 : w.cell? ⟨b, 2, none⟩ = some (.bool true)
  f1 : w.frozen? ⟨b, 1, none⟩ = false
  sl : Sl w v (xs.map B)
  le : pos ≤ xs.length
  ne : v.ownBlock ≠ some b
  small : xs.length ≤ 140737488355328
  vlt : ∀ k, v.ownBlock = some k → k < w.heap.size

theorem Rdr.chg {S : Nat → Prop} {w w' : World} {b : Nat} {v : Value} {xs : List UInt8} {pos : Nat} (h : Rdr w b v xs pos) (hC : Chg S w w') (hb : ¬ S b) (hv : ∀ k, v.ownBlock = some k → ¬ S k) : Rdr w' b v xs pos :=
  ⟨hC.cell h.c0 hb, hC.cell h.c1 hb, hC.cell h.c2 hb, hC.frozen h.c1 h.f1 hb, h.sl.chg hC hv, h.le, h.ne, h.small, fun k hk => Nat.lt_of_lt_of_le (h.vlt k hk) hC.size⟩
theorem Rdr.fr {w w' : World} {b : Nat} {v : Value} {xs : List UInt8} {pos : Nat} (h : Rdr w b v xs pos) (hC : Chg (fun _ => False) w w') : Rdr w' b v xs pos := h.chg hC id (fun _ _ => id)
theorem Rdr.drew {w : World} {b : Nat} {v : Value} {xs : List UInt8} {pos : Nat} (h : Rdr w b v xs pos) : Rdr w.drew b v xs pos := h.fr ((Chg.refl _ w).drew)

theorem sizeOf_u8 (w : World) : (sizeOf 5).run Try.prog w = .ok 1 w := by kernel_rfl

/-- The next place is stored. -/
theorem Rdr.next {w : World} {b : Nat} {v : Value} {xs : List UInt8} {pos : Nat} (h : Rdr w b v xs pos) {q : Nat} (hq : q ≤ xs.length) :
    Rdr (w.setCell ⟨b, 1, none⟩ (.int .i64 q)) b v xs q ∧ Chg (fun j => j = b) w (w.setCell ⟨b, 1, none⟩ (.int .i64 q)) := by
  have hC : Chg (fun j => j = b) w (w.setCell ⟨b, 1, none⟩ (.int .i64 q)) := (Chg.refl (fun j => j = b) w).setCell (p := ⟨b, 1, none⟩) (.inl rfl) _
  refine ⟨⟨?_, World.cell?_setCell_same' _ _ _ (by rw [h.c1]; rfl), ?_, by rw [World.frozen?_setCell]; exact h.f1, h.sl.chg hC (fun k hk e => h.ne (by rw [hk, e])), hq, h.ne, h.small, fun k hk => Nat.lt_of_lt_of_le (h.vlt k hk) hC.size⟩, hC⟩
  · rw [World.cell?_setCell_other _ _ _ _ (by simp)]
    exact h.c0
  · rw [World.cell?_setCell_other _ _ _ _ (by simp)]
    exact h.c2

set_option maxHeartbeats 400000 in
theorem none_any (b : Nat) (v : Value) (xs : List UInt8) (pos : Nat) (w : World) (hR : Rdr w b v xs pos) :
    Calls Try.prog 46 #[.pointer (some ⟨b, 0, none⟩)] w fun e w' => e = .returned (.bool false) ∧ w = w' := by
  have h2 := hR.c2
  go_enter Try.func46, Try.ntmps46
  go_wp2
  go_ret
  exact ⟨rfl, rfl⟩

/-- What Read answers: a reader in new memory. -/
def GaveR (w : World) (xs : List UInt8) (e : Ending) (w' : World) : Prop :=
  ∃ b v, e = .returned (.pointer (some ⟨b, 0, none⟩)) ∧ w.heap.size ≤ b ∧ (∀ k, v.ownBlock = some k → w.heap.size ≤ k) ∧ Rdr w' b v xs 0 ∧ Chg (fun _ => False) w w'

set_option maxHeartbeats 400000 in
theorem read_any (u : Value) (xs : List UInt8) (w : World) (hS : Sl w u (xs.map B)) (hl : xs.length ≤ 140737488355328) : Calls Try.prog 34 #[u] w (GaveR w xs) := by
  have h := cloneB_any u xs w hS hl
  go_enter Try.func34, Try.ntmps34
  go_wp2_with fail
  refine h.mono ?_
  rintro e w1 ⟨v, rfl, ho, hC⟩
  have hO := owns_name ho
  obtain ⟨ao, L, c, rfl, hL⟩ := hO
  go_wp2
  go_ret
  have hF := (Chg.refl (fun _ => False) w1).alloc (.cells #[.slice ao L c, .int .i64 0, .bool true] 87)
  refine ⟨w1.heap.size, .slice ao L c, rfl, hC.size, fun k hk => (ho.lt k hk).1, ⟨new_cell w1 _ _ rfl, new_cell w1 _ _ rfl, new_cell w1 _ _ rfl, new_frozen w1 _ _ _, (Sl.of_owns ho).fr hF, Nat.zero_le _, fun e => by have := (ho.lt _ e).2; omega, hl, fun k hk => Nat.lt_of_lt_of_le (ho.lt k hk).2 hF.size⟩, hC.tr hF⟩
end Go.Proofs.Ytpiboaoifcajdaa
