/- FoldRows: what a row folds to, how many rows there are, what reduce and scan make of any array, or the error, are the document's; arrays stay. -/
import Derived.Test.YtjmlekdgipinfaaMr50
import Derived.Test.YtjmlekdgipinfaaMr42
import Derived.Test.YtjmlekdgipinfaaMr27
import Derived.Test.YtjmlekdgipinfaaMr51
import Derived.Deep.Cut
namespace Go.Proofs.Ytjmlekdgipinfaa
open Go.RowKit Go.Shelf

abbrev True_ := @Tru16
def grt1 (m : Nat) (A : Ar) : Bool := decide (m < A.e.length) || decide (100 < A.s.length)
set_option maxRecDepth 100000 in
set_option maxHeartbeats 1000000 in
theorem great16_one (m : Nat) (sa ea : Option Addr) (cs ce b : Nat) (A : Ar) (w : World) (h : w.cell? ⟨b, 1, none⟩ = some (.slice sa A.s.length cs) ∧ w.cell? ⟨b, 2, none⟩ = some (.slice ea A.e.length ce)) (g : Bool) (hg : grt1 m A = g) : Calls Try.prog 12 #[.int .i64 m, .slice (some ⟨b, 0, none⟩) 1 1] w (SaidB w g) := by
  obtain ⟨y1, y2⟩ := h
  obtain ⟨nA, hnA⟩ : ∃ n, A.s.length = n := ⟨_, rfl⟩
  obtain ⟨lA, hlA⟩ : ∃ n, A.e.length = n := ⟨_, rfl⟩
  unfold grt1 at hg
  rw [hnA, hlA] at hg
  rw [hnA] at y1
  rw [hlA] at y2
  obtain ⟨p1, hp1⟩ : ∃ p, decide (m < lA) = p := ⟨_, rfl⟩
  obtain ⟨p2, hp2⟩ : ∃ p, decide (100 < nA) = p := ⟨_, rfl⟩
  have q2 : decide ((100 : Int) < (nA : Int)) = p2 := by rw [← hp2]; exact decide_eq_decide.2 (by omega)
  rw [hp1, hp2] at hg
  have HG := Lib.hid hg
  clear hnA hlA hg
  go_enter Try.func12, Try.ntmps12
  go_wp2_with fail
  go_loopw [8] (fun vi wr => wr = w ∧ ((vi = .int .i64 0) ∨ (vi = .int .i64 1 ∧ p1 = false ∧ p2 = false))) (fun vi _ => 1 - (intOf vi).toNat)
  case atStart => exact ⟨rfl, .inl rfl⟩
  case round =>
    obtain ⟨rfl, h⟩ := hrel
    rcases h with rfl | ⟨rfl, rfl, rfl⟩
    · cases p1 with
      | true =>
        go_wp2
        go_ret
        exact ⟨by rw [← HG.out]; rfl, by first | rfl | trivial⟩
      | false =>
        cases p2 with
        | true =>
          go_wp2
          go_ret
          exact ⟨by rw [← HG.out]; rfl, by first | rfl | trivial⟩
        | false =>
          go_wp2
          go_roundw
          case rel => exact ⟨by first | rfl | trivial, .inr ⟨rfl, by first | rfl | trivial, by first | rfl | trivial⟩⟩
          case measure => decide
    · go_wp2
      go_ret
      exact ⟨by rw [← HG.out]; rfl, by first | rfl | trivial⟩
/-- An array in the box p. -/
structure Bx1 (w : World) (p : Nat) (sa ea : Option Addr) (cs ce : Nat) (A : Ar) : Prop where
  a0 : w.cell? ⟨p, 0, none⟩ = some (.int .i64 A.k)
  a1 : w.cell? ⟨p, 1, none⟩ = some (.slice sa A.s.length cs)
  a2 : w.cell? ⟨p, 2, none⟩ = some (.slice ea A.e.length ce)
  ls : Ls w (.slice sa A.s.length cs) A.s ∧ Ls w (.slice ea A.e.length ce) A.e
theorem Bx1.fr {w w' : World} {p : Nat} {sa ea : Option Addr} {cs ce : Nat} {A : Ar} (h : Bx1 w p sa ea cs ce A) (hC : Chg (fun _ => False) w w') : Bx1 w' p sa ea cs ce A :=
  ⟨hC.cell h.a0 id, hC.cell h.a1 id, hC.cell h.a2 id, h.ls.1.fr hC, h.ls.2.fr hC⟩
theorem Bx1.ara {w : World} {p : Nat} {sa ea : Option Addr} {cs ce : Nat} {A : Ar} (h : Bx1 w p sa ea cs ce A) : Ara w (.agg #[.int .i64 A.k, .slice sa A.s.length cs, .slice ea A.e.length ce]) A := ⟨_, _, rfl, h.ls.1, h.ls.2⟩
theorem Bx1.new {w : World} {sa ea : Option Addr} {cs ce : Nat} {A : Ar} (t : TypeId) (h1 : Ls w (.slice sa A.s.length cs) A.s) (h2 : Ls w (.slice ea A.e.length ce) A.e) : Bx1 (w.alloc (.cells #[.int .i64 A.k, .slice sa A.s.length cs, .slice ea A.e.length ce] t)) w.heap.size sa ea cs ce A := by
  obtain ⟨a0, a1, a2⟩ := cell_two w (.int .i64 A.k) (.slice sa A.s.length cs) (.slice ea A.e.length ce) t
  exact ⟨a0, a1, a2, h1.fr ((Chg.refl _ _).alloc _), h2.fr ((Chg.refl _ _).alloc _)⟩
/-- An array of its own memory in the box p. -/
structure BxO (w : World) (p base : Nat) (sa ea : Option Addr) (cs ce : Nat) (A : Ar) : Prop where
  a0 : w.cell? ⟨p, 0, none⟩ = some (.int .i64 A.k)
  a1 : w.cell? ⟨p, 1, none⟩ = some (.slice sa A.s.length cs)
  a2 : w.cell? ⟨p, 2, none⟩ = some (.slice ea A.e.length ce)
  os : Own w base 3 (.slice sa A.s.length cs) A.s
  oe : Own w base 2 (.slice ea A.e.length ce) A.e
  lt : ∀ q, ((Value.slice sa A.s.length cs).ownBlock = some q ∨ (Value.slice ea A.e.length ce).ownBlock = some q) → base ≤ q ∧ q < p
  bp : base ≤ p
theorem BxO.chg {S : Nat → Prop} {w w' : World} {p base : Nat} {sa ea : Option Addr} {cs ce : Nat} {A : Ar} (h : BxO w p base sa ea cs ce A) (hC : Chg S w w') (hS : ∀ q, S q → q < base) : BxO w' p base sa ea cs ce A := by
  have hp : ¬ S p := fun hs => by have := hS p hs; have := h.bp; omega
  exact ⟨hC.cell h.a0 hp, hC.cell h.a1 hp, hC.cell h.a2 hp, h.os.chg hC (fun k e hs => by have := (h.lt k (.inl e)).1; have := hS k hs; omega), h.oe.chg hC (fun k e hs => by have := (h.lt k (.inr e)).1; have := hS k hs; omega), h.lt, h.bp⟩
theorem BxO.fr {w w' : World} {p base : Nat} {sa ea : Option Addr} {cs ce : Nat} {A : Ar} (h : BxO w p base sa ea cs ce A) (hC : Chg (fun _ => False) w w') : BxO w' p base sa ea cs ce A := h.chg hC (fun _ h => h.elim)
theorem BxO.ara {w : World} {p base : Nat} {sa ea : Option Addr} {cs ce : Nat} {A : Ar} (h : BxO w p base sa ea cs ce A) : Ara w (.agg #[.int .i64 A.k, .slice sa A.s.length cs, .slice ea A.e.length ce]) A := ⟨_, _, rfl, h.os.ls, h.oe.ls⟩
theorem BxO.new {w : World} {base : Nat} {sa ea : Option Addr} {cs ce : Nat} {A : Ar} (t : TypeId) (h1 : Own w base 3 (.slice sa A.s.length cs) A.s) (h2 : Own w base 2 (.slice ea A.e.length ce) A.e) (hb : base ≤ w.heap.size) : BxO (w.alloc (.cells #[.int .i64 A.k, .slice sa A.s.length cs, .slice ea A.e.length ce] t)) w.heap.size base sa ea cs ce A := by
  obtain ⟨a0, a1, a2⟩ := cell_two w (.int .i64 A.k) (.slice sa A.s.length cs) (.slice ea A.e.length ce) t
  exact ⟨a0, a1, a2, h1.fr ((Chg.refl _ _).alloc _), h2.fr ((Chg.refl _ _).alloc _), fun q hq => hq.elim (h1.lt q) (h2.lt q), hb⟩
theorem red_len (f : Int) (A : Ar) (hs : A.s.length ≤ 100) : (redA f A).s.length ≤ 1000000 ∧ (redA f A).e.length ≤ 1000000 := by
  unfold redA
  by_cases h : redE f A = 0
  · rw [if_pos h]
    have hf : shB A.s.dropLast = true := by
      unfold redE at h
      by_cases h0 : fineE f A = 0
      · rw [if_pos h0] at h
        cases hsf : shB A.s.dropLast with
        | true => rfl
        | false => rw [hsf] at h; simp at h
      · rw [if_neg h0] at h; exact absurd h h0
    have := (shB_iff.1 hf).2.2
    simp only [tabV_length, List.length_dropLast]
    unfold frN
    omega
  · rw [if_neg h]
    simp [noA]
theorem scn_len (f : Int) (A : Ar) (hs : A.s.length ≤ 100) (he : A.e.length ≤ 300) : (scnA f A).s.length ≤ 1000000 ∧ (scnA f A).e.length ≤ 1000000 := by
  unfold scnA
  by_cases h : scnE f A = 0
  · rw [if_pos h]
    simp only [tabV_length]
    omega
  · rw [if_neg h]
    simp [noA]
theorem grt1_not {m : Nat} {A : Ar} (h : grt1 m A = false) : A.e.length ≤ m ∧ A.s.length ≤ 100 := by
  unfold grt1 at h
  simp only [Bool.or_eq_false_iff, decide_eq_false_iff_not] at h
  omega
end Go.Proofs.Ytjmlekdgipinfaa
