/- fold: arrays that statements go through. -/
import Derived.Test.YtjmlekdgipinfaaMt49
namespace Go.Proofs.Ytjmlekdgipinfaa
open Go.RowKit Go.Shelf

def grt16 (m : Nat) (A : Ar) : Bool := decide (m < A.e.length) || decide (100 < A.s.length)
/-- Two arrays, one behind the other, in block b. -/
def Two6 (w : World) (b : Nat) (sa ea ta fa : Option Addr) (cs ce ct cf : Nat) (A B : Ar) : Prop :=
  (w.cell? ⟨b, 1, none⟩ = some (.slice sa A.s.length cs) ∧ w.cell? ⟨b, 2, none⟩ = some (.slice ea A.e.length ce)) ∧ w.cell? ⟨b, 4, none⟩ = some (.slice ta B.s.length ct) ∧ w.cell? ⟨b, 5, none⟩ = some (.slice fa B.e.length cf)
set_option maxRecDepth 100000 in
set_option maxHeartbeats 1000000 in
theorem great16_any (m : Nat) (sa ea ta fa : Option Addr) (cs ce ct cf b : Nat) (A B : Ar) (w : World) (h : Two6 w b sa ea ta fa cs ce ct cf A B) (g : Bool) (hg : (grt16 m A || grt16 m B) = g) : Calls Try.prog 12 #[.int .i64 m, .slice (some ⟨b, 0, none⟩) 2 2] w (SaidB w g) := by
  obtain ⟨⟨y1, y2⟩, z1, z2⟩ := h
  obtain ⟨nA, hnA⟩ : ∃ n, A.s.length = n := ⟨_, rfl⟩
  obtain ⟨lA, hlA⟩ : ∃ n, A.e.length = n := ⟨_, rfl⟩
  obtain ⟨nB, hnB⟩ : ∃ n, B.s.length = n := ⟨_, rfl⟩
  obtain ⟨lB, hlB⟩ : ∃ n, B.e.length = n := ⟨_, rfl⟩
  unfold grt16 at hg
  rw [hnA, hlA, hnB, hlB] at hg
  rw [hnA] at y1
  rw [hlA] at y2
  rw [hnB] at z1
  rw [hlB] at z2
  obtain ⟨p1, hp1⟩ : ∃ p, decide (m < lA) = p := ⟨_, rfl⟩
  obtain ⟨p2, hp2⟩ : ∃ p, decide (100 < nA) = p := ⟨_, rfl⟩
  obtain ⟨p3, hp3⟩ : ∃ p, decide (m < lB) = p := ⟨_, rfl⟩
  obtain ⟨p4, hp4⟩ : ∃ p, decide (100 < nB) = p := ⟨_, rfl⟩
  have q2 : decide ((100 : Int) < (nA : Int)) = p2 := by rw [← hp2]; exact decide_eq_decide.2 (by omega)
  have q4 : decide ((100 : Int) < (nB : Int)) = p4 := by rw [← hp4]; exact decide_eq_decide.2 (by omega)
  rw [hp1, hp2, hp3, hp4] at hg
  have HG := Lib.hid hg
  clear hnA hlA hnB hlB hg
  go_enter Try.func12, Try.ntmps12
  go_wp2_with fail
  go_loopw [8] (fun vi wr => wr = w ∧ ((vi = .int .i64 0) ∨ (vi = .int .i64 1 ∧ p1 = false ∧ p2 = false) ∨ (vi = .int .i64 2 ∧ p1 = false ∧ p2 = false ∧ p3 = false ∧ p4 = false))) (fun vi _ => 2 - (intOf vi).toNat)
  case atStart => exact ⟨rfl, .inl rfl⟩
  case round =>
    obtain ⟨rfl, h⟩ := hrel
    rcases h with rfl | ⟨rfl, rfl, rfl⟩ | ⟨rfl, rfl, rfl, rfl, rfl⟩
    · cases p1 with
      | true =>
        go_wp2
        go_ret
        exact ⟨by rw [← HG.out]; rfl, by first | rfl | trivial⟩
      | false =>
        cases p2 with
        | true =>
          go_wp2
          go_ret
          exact ⟨by rw [← HG.out]; rfl, by first | rfl | trivial⟩
        | false =>
          go_wp2
          go_roundw
          case rel => exact ⟨by first | rfl | trivial, .inr (.inl ⟨rfl, by first | rfl | trivial, by first | rfl | trivial⟩)⟩
          case measure => decide
    · cases p3 with
      | true =>
        go_wp2
        go_ret
        exact ⟨by rw [← HG.out]; rfl, by first | rfl | trivial⟩
      | false =>
        cases p4 with
        | true =>
          go_wp2
          go_ret
          exact ⟨by rw [← HG.out]; rfl, by first | rfl | trivial⟩
        | false =>
          go_wp2
          go_roundw
          case rel => exact ⟨by first | rfl | trivial, .inr (.inr ⟨rfl, by first | rfl | trivial, by first | rfl | trivial, by first | rfl | trivial, by first | rfl | trivial⟩)⟩
          case measure => decide
    · go_wp2
      go_ret
      exact ⟨by rw [← HG.out]; rfl, by first | rfl | trivial⟩
end Go.Proofs.Ytjmlekdgipinfaa
