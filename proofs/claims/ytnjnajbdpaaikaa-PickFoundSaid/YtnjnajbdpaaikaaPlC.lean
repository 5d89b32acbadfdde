/- pick: where each element comes from, by axes. -/
import Derived.Test.YtnjnajbdpaaikaaPlB
import Derived.Test.YtnjnajbdpaaikaaRnd
import Derived.Sort.CutIn
namespace Go.Proofs.Ytnjnajbdpaaikaa
open Go.RowKit Go.Shelf
attribute [local go_sem] Oper.semAt_some

def stY (y : Px) (s : Int × Int × Int) : Int × Int × Int := (s.1 / mnP y, s.2.1 + s.2.2 * plP y (s.1 % mnP y), s.2.2 * y.l)
def noP : Px := ⟨0, false, []⟩
/-- What is reckoned behind some axes: what is left of the number, the place, the step. -/
def stR (L : List Px) (n0 : Int) (pre : List (Nat × PxV)) : Int × Int × Int := pre.foldl (fun s x => stY (L.getD x.1 noP) s) (n0, 0, 1)
theorem stR_snoc (L : List Px) (n0 : Int) (pre : List (Nat × PxV)) (x : Nat × PxV) : stR L n0 (pre ++ [x]) = stY (L.getD x.1 noP) (stR L n0 pre) := by simp [stR]
theorem ixR_fold : ∀ (r : List Px) (n p b : Int), ixR r n p b = (r.foldl (fun s y => stY y s) (n, p, b)).2.1
  | [], _, _, _ => rfl
  | y :: r, n, p, b => by rw [ixR, ixR_fold r, List.foldl_cons]; rfl
theorem stR_whole {L : List Px} {VS : List PxV} (h : VS.length = L.length) (n0 : Int) : (stR L n0 (bxL VS)).2.1 = ixR L.reverse n0 0 1 := by
  have e : (bxL VS).map (fun x => L.getD x.1 noP) = L.reverse := by
    refine List.ext_getElem (by simp [bxL_length, h]) (fun i h1 h2 => ?_)
    have hi : i < L.length := by simpa using h2
    have hi2 : L.length - 1 - i < L.length := by omega
    simp [bxL, bxA, h, List.getD, hi2, List.getElem_reverse]
  rw [ixR_fold, ← e, List.foldl_map]
  rfl
theorem bx_last {VS : List PxV} {q : Nat} (h : q < VS.length) : ((bxL VS).take (q + 1)).getLast? = some (bxA VS q) := by
  rw [bxL_succ VS q h]
  simp
theorem bx_zero {VS : List PxV} (h : 0 < VS.length) : ∃ x ∈ bxL VS, x.1 = 0 := by
  refine ⟨bxA VS (VS.length - 1), List.mem_map.2 ⟨VS.length - 1, List.mem_range.2 (by omega), rfl⟩, ?_⟩
  unfold bxA
  simp
/-- The rounds: b2 the number, b5 the place, b6 the step. -/
def ColI (b2 b5 b6 : Nat) (L : List Px) (n0 : Int) (w1 : World) (pre : List (Nat × PxV)) (W : World) : Prop :=
  (∀ x ∈ pre, x.1 ≠ 0) ∧ ((0 ≤ (stR L n0 pre).1 ∧ (stR L n0 pre).1 ≤ 4096) ∧ (0 ≤ (stR L n0 pre).2.2 ∧ (stR L n0 pre).2.2 ≤ 4096 ^ pre.length) ∧ (0 ≤ (stR L n0 pre).2.1 ∧ (stR L n0 pre).2.1 ≤ (pre.length : Int) * 281474976710656)) ∧
  ((W.cell? ⟨b2, 0, none⟩ = some (.int .i64 (stR L n0 pre).1) ∧ W.frozen? ⟨b2, 0, none⟩ = false) ∧ (W.cell? ⟨b5, 0, none⟩ = some (.int .i64 (stR L n0 pre).2.1) ∧ W.frozen? ⟨b5, 0, none⟩ = false) ∧ W.cell? ⟨b6, 0, none⟩ = some (.int .i64 (stR L n0 pre).2.2) ∧ W.frozen? ⟨b6, 0, none⟩ = false) ∧ Chg (fun q => q = b2 ∨ q = b5 ∨ q = b6) w1 W
def StpI (b2 b5 b6 : Nat) (L : List Px) (n0 : Int) (w1 : World) (c : Code) (pre : List (Nat × PxV)) (W : World) : Prop :=
  c = .exit 0 ∧ (∃ x, pre.getLast? = some x ∧ x.1 = 0) ∧ W.cell? ⟨b5, 0, none⟩ = some (.int .i64 (stR L n0 pre).2.1) ∧ Chg (fun q => q = b2 ∨ q = b5 ∨ q = b6) w1 W
theorem ColI.own (b2 b5 b6 : Nat) (L : List Px) (n0 : Int) (w1 : World) (N : Nat) (h1 : w1.heap.size ≤ N) : OwnFrom N (ColI b2 b5 b6 L n0 w1) := by
  rintro pre A C row ⟨h0, hb, ⟨⟨c2, f2⟩, ⟨c5, f5⟩, c6, f6⟩, hC⟩ hg hr
  have hk := fun {q : Addr} {u : Value} (h : A.cell? q = some u) => cell_kept h hg (fun r e => (hr r e).2)
  exact ⟨h0, hb, ⟨⟨hk c2, (frozen_kept c2 hg (fun r e => (hr r e).2)).trans f2⟩, ⟨hk c5, (frozen_kept c5 hg (fun r e => (hr r e).2)).trans f5⟩, hk c6, (frozen_kept c6 hg (fun r e => (hr r e).2)).trans f6⟩, hC.grown hg (fun k e => .inr (Nat.le_trans h1 (hr k e).1))⟩
theorem StpI.own (b2 b5 b6 : Nat) (L : List Px) (n0 : Int) (w1 : World) (c : Code) (N : Nat) (h1 : w1.heap.size ≤ N) : OwnFrom N (StpI b2 b5 b6 L n0 w1 c) := by
  rintro pre A C row ⟨h0, h2, d0, hC⟩ hg hr
  exact ⟨h0, h2, cell_kept d0 hg (fun r e => (hr r e).2), hC.grown hg (fun k e => .inr (Nat.le_trans h1 (hr k e).1))⟩
theorem ColI.abides (b2 b5 b6 : Nat) (L : List Px) (n0 : Int) (w1 : World) : AbidesT (fun _ => False) (ColI b2 b5 b6 L n0 w1) := by
  rintro pre A C ⟨h0, hb, ⟨⟨c2, f2⟩, ⟨c5, f5⟩, c6, f6⟩, hC⟩ hD
  exact ⟨h0, hb, ⟨⟨hD.cell c2 id, hD.frozen c2 f2 id⟩, ⟨hD.cell c5 id, hD.frozen c5 f5 id⟩, hD.cell c6 id, hD.frozen c6 f6 id⟩, hC.trans hD (fun _ _ h => h) (fun _ _ h => h.elim)⟩
theorem StpI.abides (b2 b5 b6 : Nat) (L : List Px) (n0 : Int) (w1 : World) (c : Code) : AbidesT (fun _ => False) (StpI b2 b5 b6 L n0 w1 c) := by
  rintro pre A C ⟨h0, h2, d0, hC⟩ hD
  exact ⟨h0, h2, hD.cell d0 id, hC.trans hD (fun _ _ h => h) (fun _ _ h => h.elim)⟩
def OkI (w00 : World) (L : List Px) (x : Nat × PxV) : Prop := ∃ y, L[x.1]? = some y ∧ PxVal w00 x.2.val y ∧ PxOk y
theorem axes_seq (b1 b2 b5 b6 n c : Nat) (ao : Option Addr) (VS : List PxV) (hn2 : n ≤ 1000000) (Ok : Nat × PxV → Prop) (hOk : ∀ t, t < n → Ok (bxA VS t)) (w00 w : World) (h00 : Chg (fun _ => False) w00 w) (h2 : w00.heap.size ≤ b2) (h5 : w00.heap.size ≤ b5) (h6 : w00.heap.size ≤ b6)
    (hb : b2 < b1 ∧ b5 < b1 ∧ b6 < b1) (h1 : w.cell? ⟨b1, 0, none⟩ = some (.slice ao n c)) (hs : VsAt w00 (.slice ao n c) n VS) :
    SeqKp Try.prog 95 #[.pointer (some ⟨b1, 0, none⟩)] encX (fun q => q < w.heap.size ∧ q ≠ b2 ∧ q ≠ b5 ∧ q ≠ b6) (fun _ => False) Ok (fun ys => ys = bxL VS) (fun pre => ∃ q, q < n ∧ pre = (bxL VS).take (q + 1)) n w := fun l J Jx W hW hJ _ hJx hY h0 =>
  axes1_in l b1 n c ao VS hn2 (fun q => q < w.heap.size ∧ q ≠ b2 ∧ q ≠ b5 ∧ q ≠ b6) Ok hOk J Jx hY w00 w (fun q hq => ⟨by have := h00.size; omega, by omega, by omega, by omega⟩) ⟨cell_lt h1, by omega, by omega, by omega⟩ h00 h1 hs W (fun q hq => hW.block q hq.1) h0
end Go.Proofs.Ytnjnajbdpaaikaa
