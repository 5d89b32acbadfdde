/- As RangeA, and the iterator may lean on its cells behind a round that stops it too. -/
import Derived.Test.YtnjnajbdpaaikaaRangeT
namespace Go.Proofs.Ytnjnajbdpaaikaa
open Go.RowKit Go.Shelf

/-- The iterator's contract. -/
def SeqKp {α : Type} (P : Program) (g : Nat) (lb : Array Value) (encs : α → Array Value) (R T : Nat → Prop) (Ok : α → Prop) (S Sp : List α → Prop) (N : Nat) (w : World) : Prop :=
  ∀ (l : Nat) (J Jx : List α → World → Prop) (W : World), Below w.heap.size w W → AbidesT T J → AbidesT T Jx → (∀ pre W, Jx pre W → ∀ k, R k → W.heap[k]? = w.heap[k]?) →
    (∀ pre x W1, Ok x → J pre W1 → pre.length < N → YieldAt Fence.wide 6 P l (encs x) W1 fun e W' =>
      (e = .returned (.bool true) ∧ J (pre ++ [x]) W' ∧ Keep R W1 W') ∨ (e = .returned (.bool false) ∧ Jx (pre ++ [x]) W')) →
    J [] W →
    CallsIn Fence.wide 7 P g (#[.func (.yield l) #[] #[]] ++ lb) W fun e W' => (∃ v, e = .returned v) ∧ ((∃ xs, S xs ∧ J xs W') ∨ (∃ pre, Sp pre ∧ Jx pre W'))

theorem wp_rangeKp {P : Program} {α : Type} {g : Operand} {ps : Array Tmp} {assign body : Code} {Q : Exit → Act → World → Prop} {a : Act} {w : World}
    {gf : Nat} {lb : Array Value} (hg : a.eval g = .func (.func gf) #[] lb) (eg : ∀ args w, (callFunc gf args).run P w = .ok (.enter gf args) w)
    {encs : α → Array Value} {R T : Nat → Prop} {Ok : α → Prop} {S Sp : List α → Prop} {N : Nat} (hT : ∀ k, T k → k < w.heap.size) (hR : ∀ k, R k → k < w.heap.size)
    (hseq : SeqKp P gf lb encs R T Ok S Sp N w) (hps : ∀ x, (encs x).size = ps.size)
    (I : List α → World → Prop) (Ix : Code → List α → World → Prop) (hI : OwnFrom w.heap.size I) (hIx : ∀ c, OwnFrom w.heap.size (Ix c)) (hIT : AbidesT T I) (hIxT : ∀ c, AbidesT T (Ix c)) (hIxR : ∀ c pre W, Ix c pre W → ∀ k, R k → W.heap[k]? = w.heap[k]?) (h0 : I [] w) (a₁ : α → Nat → Act) (gx : α → World → World) (hgx : ∀ (x : α) (W : World), W.grownBy (gx x W) none) (Bx : α × Nat → World → Prop) (hBx : OwnFrom w.heap.size Bx) (hBx0 : ∀ (pre : List α) (x : α) (W : World), I pre W → Bx (x, W.heap.size) (gx x W))
    (hassign : ∀ (l : Nat) (x : α) (W : World) (K : Act → World → Prop), K (a₁ x W.heap.size) (gx x W) →
      assign.wpIn (Fence.wide.inRound l) 6 P (Exit.then K (fun _ _ _ => False)) { tmps := (ps.zip (encs x)).foldl (fun t (p, v) => t.setIfInBounds p v) a.tmps, defers := [] } W)
    (hbody : ∀ (l : Nat) (pre : List α) (x : α) (m : Nat) (W : World), Ok x → I pre W → Bx (x, m) W → w.heap.size ≤ m → pre.length < N → body.wpIn (Fence.wide.inRound l) 6 P (ownPostG w.heap.size (Keep R) I Ix (pre ++ [x]) W) (a₁ x m) W)
    (hdone : ∀ (D : Nat) (xs : List α) (W : World), w.heap.size ≤ D → S xs → I xs W → W.heap[D]? = some (.deferred (some [])) → Q .normal { a with defers := { target := .collected D, args := #[] } :: a.defers } W)
    (hstop : ∀ (D : Nat) (c : Code) (pre : List α) (W : World), w.heap.size ≤ D → Sp pre → Ix c pre W → W.heap[D]? = some (.deferred (some [])) → c.wp P Q { a with defers := { target := .collected D, args := #[] } :: a.defers } W) :
    (Code.rangeFunc g ps assign body).wp P Q a w := by
  refine (wpIn_wide (n := 8)).1 (wpIn_rangeFunc fun fn hfn => ?_)
  obtain ⟨rec, hrec⟩ : ∃ rec : LoopState → Option Code → Loop, rec = fun st pe => { state := st, pending := pe, fn, tmps := a.tmps, params := ps, assign, body, defers := w.heap.size } := ⟨_, rfl⟩
  -- the two blocks that the statement lays: D for the deferred calls, D + 1 the record
  obtain ⟨D, hD⟩ : ∃ D, w.heap.size = D := ⟨_, rfl⟩
  obtain ⟨w1, hw1⟩ : ∃ w1, (w.alloc (.deferred (some []))).alloc (.loop (rec .ready none)) = w1 := ⟨_, rfl⟩
  have r1 : w1.heap[D + 1]? = some (.loop (rec .ready none)) := by
    have := World.alloc_heap_new (w.alloc (.deferred (some []))) (.loop (rec .ready none))
    rw [World.size_alloc, hD] at this
    rw [← hw1]; exact this
  have d1 : w1.heap[D]? = some (.deferred (some [])) := by
    have := World.alloc_heap_new w (.deferred (some []))
    rw [← hw1, ← hD]; exact (Below.heap_alloc _ _ _ (by simp)).trans this
  have i1 : I [] w1 := by rw [← hw1]; exact hI.alloc _ (hI.alloc _ h0)
  have b1 : Below w.heap.size w w1 := by
    rw [← hw1]; exact ((Below.refl _ w).alloc (Nat.le_refl _) _).alloc (by simp) _
  have nT : ¬ T D ∧ ¬ T (D + 1) := ⟨fun h => by have := hT _ h; omega, fun h => by have := hT _ h; omega⟩
  have nR : ¬ R (D + 1) := fun h => by have := hR _ h; omega
  refine ⟨D + 1, [{ target := .collected D, args := #[] }], w1, { target := .fn (.func gf) lb, args := #[.func (.yield (D + 1)) #[] #[]] }, w1, gf,
    #[.func (.yield (D + 1)) #[] #[]] ++ lb, w1, ?_, ?_, ?_, ?_, fun _ => by omega, ?_⟩
  · rw [← hw1, hrec, ← hD]; exact run_enterLoop_outer _ _ _ _ _
  · simp only [resolve, hg]
    simp [go_sem]
  · intro f' hf'; trivial
  · simp [invoke, go_sem, eg]
  · refine (hseq (D + 1)
      (fun pre W => I pre W ∧ W.heap[D + 1]? = some (.loop (rec .ready none)) ∧ W.heap[D]? = some (.deferred (some [])))
      (fun pre W => ∃ c, Ix c pre W ∧ W.heap[D + 1]? = some (.loop (rec .done (some c))) ∧ W.heap[D]? = some (.deferred (some [])))
      w1 b1 (fun s A B h hC => ⟨hIT s A B h.1 hC, keeps_at hC nT.2 h.2.1, keeps_at hC nT.1 h.2.2⟩)
      (fun s A B h hC => h.imp fun c h => ⟨hIxT c s A B h.1 hC, keeps_at hC nT.2 h.2.1, keeps_at hC nT.1 h.2.2⟩) (fun pre W h k hk => (by obtain ⟨c, h1, _⟩ := h; exact hIxR c pre W h1 k hk)) ?_ ⟨i1, r1, d1⟩).mono ?_
    · -- a round
      rintro pre x W hok ⟨hi, hl, hd⟩ hlen
      have hlt : D + 1 < W.heap.size := (Array.getElem?_eq_some_iff.1 hl).1
      have hy := run_yield (P := P) (args := encs x) hl (by rw [hrec]; exact hps x)
      rw [hrec] at hy
      have hg := hgx x W
      have hl1 : (gx x W).heap[D + 1]? = some (.loop (rec .ready none)) := (hg.block _ hlt (by simp)).trans hl
      have hd1 : (gx x W).heap[D]? = some (.deferred (some [])) := (hg.block _ (by omega) (by simp)).trans hd
      refine ⟨fn, _, assign, body, hy, roundIn_of_wpIn hfn (hassign _ x W _ ⟨_, run_beginRound hl1 (by rw [hrec]), ?_⟩)⟩
      obtain ⟨W2, hW2⟩ : ∃ W2, (gx x W).putObj (D + 1) (.loop { rec .ready none with state := .busy }) = W2 := ⟨_, rfl⟩
      have hl2 : W2.heap[D + 1]? = some (.loop { rec .ready none with state := .busy }) := by rw [← hW2]; exact World.putObj_heap_same (Nat.lt_of_lt_of_le hlt hg.size)
      have hd2 : W2.heap[D]? = some (.deferred (some [])) := by rw [← hW2]; exact (World.putObj_heap_other (by omega)).trans hd1
      have hk2 : Keep R W W2 := by
        rw [← hW2]
        exact Keep.trans ⟨hg.size, fun k hk => hg.block k (by have := hR k hk; omega) (by simp)⟩ (Keep.putObj nR)
      have hi2 : I pre W2 := by rw [← hW2]; exact hI.putObj _ (hI _ _ _ none hi hg (fun r e => by cases e)) (by omega) hl1 rfl
      have hb2 : Bx (x, W.heap.size) W2 := by rw [← hW2]; exact hBx.putObj _ (hBx0 pre x W hi) (by omega) hl1 rfl
      rw [show ((gx x W).putObj (D + 1) _) = W2 from hW2]
      refine wpIn_mono (hbody _ pre x _ _ hok hi2 hb2 (by omega) hlen) ?_
      have fin : ∀ (jump : Option Code) (W3 : World), KeepsFrom w.heap.size W2 W3 →
          (Instr.endRound (D + 1) jump).run P W3 = .ok (.bool jump.isNone) (W3.putObj (D + 1) (.loop (rec (if jump.isNone then .ready else .done) jump))) ∧
          W3.heap[D + 1]? = some (.loop { rec .ready none with state := .busy }) ∧
          (W3.putObj (D + 1) (.loop (rec (if jump.isNone then .ready else .done) jump))).heap[D + 1]? = some (.loop (rec (if jump.isNone then .ready else .done) jump)) ∧
          (W3.putObj (D + 1) (.loop (rec (if jump.isNone then .ready else .done) jump))).heap[D]? = some (.deferred (some [])) := fun jump W3 hk3 => by
        have hl3 := hk3.same _ _ (by omega) hl2 rfl
        have := run_endRound (P := P) jump hl3
        rw [hrec] at this ⊢
        exact ⟨this, by rw [hrec] at hl3; exact hl3, World.putObj_heap_same (Array.getElem?_eq_some_iff.1 hl3).1, (World.putObj_heap_other (by omega)).trans (hk3.same _ _ (by omega) hd2 rfl)⟩
      intro e a3 W3 hp
      cases e with
      | normal =>
        obtain ⟨hk3, hkp3, hi3⟩ := hp
        obtain ⟨hr, hl3, hl4, hd4⟩ := fin none W3 hk3
        exact ⟨_, _, hr, .inl ⟨rfl, ⟨hI.putObj _ hi3 (by omega) hl3 rfl, hl4, hd4⟩, (hk2.trans hkp3).trans (Keep.putObj nR)⟩⟩
      | ret =>
        obtain ⟨hr, hl3, hl4, hd4⟩ := fin (some .ret) W3 hp.1
        exact ⟨_, _, hr, .inr ⟨rfl, .ret, (hIx _).putObj _ hp.2 (by omega) hl3 rfl, hl4, hd4⟩⟩
      | exit id =>
        obtain ⟨hr, hl3, hl4, hd4⟩ := fin (some (.exit id)) W3 hp.1
        exact ⟨_, _, hr, .inr ⟨rfl, .exit id, (hIx _).putObj _ hp.2 (by omega) hl3 rfl, hl4, hd4⟩⟩
      | goto t =>
        obtain ⟨hr, hl3, hl4, hd4⟩ := fin (some (.goto t)) W3 hp.1
        exact ⟨_, _, hr, .inr ⟨rfl, .goto t, (hIx _).putObj _ hp.2 (by omega) hl3 rfl, hl4, hd4⟩⟩
      | panic ch => exact hp.elim
      | outgrown => exact hp.elim
    · -- behind the iterator
      rintro e W2 ⟨⟨v, rfl⟩, (⟨xs, hS, hi, hl, hd⟩ | ⟨pre, hSp, c, hi, hl, hd⟩)⟩
      · exact ⟨none, _, by have := run_endLoop (P := P) hl (by rw [hrec]; simp); rw [hrec] at this; exact this, hdone D xs _ (by omega) hS (hI.putObj _ hi (by omega) hl rfl) ((World.putObj_heap_other (by omega)).trans hd)⟩
      · exact ⟨some c, _, by have := run_endLoop (P := P) hl (by rw [hrec]; simp); rw [hrec] at this; exact this, wpIn_wide.2 (hstop D c pre _ (by omega) hSp ((hIx c).putObj _ hi (by omega) hl rfl) ((World.putObj_heap_other (by omega)).trans hd))⟩
end Go.Proofs.Ytnjnajbdpaaikaa
