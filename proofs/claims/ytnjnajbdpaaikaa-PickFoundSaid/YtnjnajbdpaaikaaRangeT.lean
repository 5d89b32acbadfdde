/- A range over a function whose iterator writes cells of its own between two rounds (a captured variable, a reader):
   T are the blocks that the iterator may write, R those that a round must keep. The kit's fourth law lets an iterator write no cells. -/
import Derived.Test.YtnjnajbdpaaikaaRange
namespace Go.Proofs.Ytnjnajbdpaaikaa
open Go.RowKit Go.Shelf

/-- What a round keeps for the iterator: the blocks R. -/
structure Keep (R : Nat → Prop) (A B : World) : Prop where
  size : A.heap.size ≤ B.heap.size
  same : ∀ k, R k → B.heap[k]? = A.heap[k]?

theorem Keep.refl (R : Nat → Prop) (A : World) : Keep R A A := ⟨Nat.le_refl _, fun _ _ => rfl⟩
theorem Keep.trans {R : Nat → Prop} {A B C : World} (h : Keep R A B) (k : Keep R B C) : Keep R A C := ⟨Nat.le_trans h.size k.size, fun i hi => (k.same i hi).trans (h.same i hi)⟩
theorem Keep.of_chg {R S : Nat → Prop} {A B : World} (h : Chg S A B) (hR : ∀ k, R k → k < A.heap.size ∧ ¬ S k) : Keep R A B := ⟨h.size, fun k hk => h.block k (hR k hk).1 (hR k hk).2⟩
theorem Keep.cell {R : Nat → Prop} {A B : World} (h : Keep R A B) {p : Addr} (hp : R p.block) : B.cell? p = A.cell? p := World.cell?_of_block (h.same _ hp)
theorem Keep.frozen {R : Nat → Prop} {A B : World} (h : Keep R A B) {p : Addr} (hp : R p.block) : B.frozen? p = A.frozen? p := World.frozen?_of_block (h.same _ hp)
theorem Keep.putObj {R : Nat → Prop} {W : World} {l : Nat} {o' : Obj} (hl : ¬ R l) : Keep R W (W.putObj l o') :=
  ⟨by simp, fun k hk => World.putObj_heap_other (fun e => hl (e ▸ hk))⟩

theorem Keep.setCell {R : Nat → Prop} {W : World} {p : Addr} (u : Value) (h : ¬ R p.block) : Keep R W (W.setCell p u) :=
  ⟨by simp [World.setCell], fun k hk => Below.heap_setCell W p u k (fun e => h (e ▸ hk))⟩
theorem chg_cell (W : World) (b i : Nat) (u : Value) : Chg (fun k => k = b) W (W.setCell ⟨b, i, none⟩ u) := (Chg.refl (fun k => k = b) W).setCell (p := ⟨b, i, none⟩) (.inl rfl) u

/-- An invariant that abides the iterator's steps. -/
def AbidesT {β : Type} (T : Nat → Prop) (J : β → World → Prop) : Prop := ∀ s A B, J s A → Chg T A B → J s B

/-- The iterator's contract. -/
def SeqT {α : Type} (P : Program) (g : Nat) (lb : Array Value) (encs : α → Array Value) (R T : Nat → Prop) (S Sp : List α → Prop) (N : Nat) (w : World) : Prop :=
  ∀ (l : Nat) (J Jx : List α → World → Prop) (W : World), Below w.heap.size w W → AbidesT T J → AbidesT T Jx →
    (∀ pre x W1, J pre W1 → pre.length < N → YieldAt Fence.wide 6 P l (encs x) W1 fun e W' =>
      (e = .returned (.bool true) ∧ J (pre ++ [x]) W' ∧ Keep R W1 W') ∨ (e = .returned (.bool false) ∧ Jx (pre ++ [x]) W')) →
    J [] W →
    CallsIn Fence.wide 7 P g (#[.func (.yield l) #[] #[]] ++ lb) W fun e W' => (∃ v, e = .returned v) ∧ ((∃ xs, S xs ∧ J xs W') ∨ (∃ pre, Sp pre ∧ Jx pre W'))

theorem keeps_at {T : Nat → Prop} {A B : World} {k : Nat} {o : Obj} (hC : Chg T A B) (hk : ¬ T k) (h : A.heap[k]? = some o) : B.heap[k]? = some o :=
  (hC.block k (Array.getElem?_eq_some_iff.1 h).1 hk).trans h

theorem wp_rangeT {P : Program} {α : Type} {g : Operand} {ps : Array Tmp} {assign body : Code} {Q : Exit → Act → World → Prop} {a : Act} {w : World}
    {gf : Nat} {lb : Array Value} (hg : a.eval g = .func (.func gf) #[] lb) (eg : ∀ args w, (callFunc gf args).run P w = .ok (.enter gf args) w)
    {encs : α → Array Value} {R T : Nat → Prop} {S Sp : List α → Prop} {N : Nat} (hT : ∀ k, T k → k < w.heap.size) (hR : ∀ k, R k → k < w.heap.size)
    (hseq : SeqT P gf lb encs R T S Sp N w) (hps : ∀ x, (encs x).size = ps.size)
    (I : List α → World → Prop) (Ix : Code → List α → World → Prop) (hI : OwnFrom w.heap.size I) (hIx : ∀ c, OwnFrom w.heap.size (Ix c)) (hIT : AbidesT T I) (hIxT : ∀ c, AbidesT T (Ix c)) (h0 : I [] w) (a₁ : α → Act)
    (hassign : ∀ (l : Nat) (x : α) (W : World) (K : Act → World → Prop), K (a₁ x) W →
      assign.wpIn (Fence.wide.inRound l) 6 P (Exit.then K (fun _ _ _ => False)) { tmps := (ps.zip (encs x)).foldl (fun t (p, v) => t.setIfInBounds p v) a.tmps, defers := [] } W)
    (hbody : ∀ (l : Nat) (pre : List α) (x : α) (W : World), I pre W → pre.length < N → body.wpIn (Fence.wide.inRound l) 6 P (ownPostG w.heap.size (Keep R) I Ix (pre ++ [x]) W) (a₁ x) W)
    (hdone : ∀ (D : Nat) (xs : List α) (W : World), w.heap.size ≤ D → S xs → I xs W → W.heap[D]? = some (.deferred (some [])) → Q .normal { a with defers := { target := .collected D, args := #[] } :: a.defers } W)
    (hstop : ∀ (D : Nat) (c : Code) (pre : List α) (W : World), w.heap.size ≤ D → Sp pre → Ix c pre W → W.heap[D]? = some (.deferred (some [])) → c.wp P Q { a with defers := { target := .collected D, args := #[] } :: a.defers } W) :
    (Code.rangeFunc g ps assign body).wp P Q a w := by
  refine (wpIn_wide (n := 8)).1 (wpIn_rangeFunc fun fn hfn => ?_)
  obtain ⟨rec, hrec⟩ : ∃ rec : LoopState → Option Code → Loop, rec = fun st pe => { state := st, pending := pe, fn, tmps := a.tmps, params := ps, assign, body, defers := w.heap.size } := ⟨_, rfl⟩
  -- the two blocks that the statement lays: D for the deferred calls, D + 1 the record
  obtain ⟨D, hD⟩ : ∃ D, w.heap.size = D := ⟨_, rfl⟩
  obtain ⟨w1, hw1⟩ : ∃ w1, (w.alloc (.deferred (some []))).alloc (.loop (rec .ready none)) = w1 := ⟨_, rfl⟩
  have r1 : w1.heap[D + 1]? = some (.loop (rec .ready none)) := by
    have := World.alloc_heap_new (w.alloc (.deferred (some []))) (.loop (rec .ready none))
    rw [World.size_alloc, hD] at this
    rw [← hw1]; exact this
  have d1 : w1.heap[D]? = some (.deferred (some [])) := by
    have := World.alloc_heap_new w (.deferred (some []))
    rw [← hw1, ← hD]; exact (Below.heap_alloc _ _ _ (by simp)).trans this
  have i1 : I [] w1 := by rw [← hw1]; exact hI.alloc _ (hI.alloc _ h0)
  have b1 : Below w.heap.size w w1 := by
    rw [← hw1]; exact ((Below.refl _ w).alloc (Nat.le_refl _) _).alloc (by simp) _
  have nT : ¬ T D ∧ ¬ T (D + 1) := ⟨fun h => by have := hT _ h; omega, fun h => by have := hT _ h; omega⟩
  have nR : ¬ R (D + 1) := fun h => by have := hR _ h; omega
  refine ⟨D + 1, [{ target := .collected D, args := #[] }], w1, { target := .fn (.func gf) lb, args := #[.func (.yield (D + 1)) #[] #[]] }, w1, gf,
    #[.func (.yield (D + 1)) #[] #[]] ++ lb, w1, ?_, ?_, ?_, ?_, fun _ => by omega, ?_⟩
  · rw [← hw1, hrec, ← hD]; exact run_enterLoop_outer _ _ _ _ _
  · simp only [resolve, hg]
    simp [go_sem]
  · intro f' hf'; trivial
  · simp [invoke, go_sem, eg]
  · refine (hseq (D + 1)
      (fun pre W => I pre W ∧ W.heap[D + 1]? = some (.loop (rec .ready none)) ∧ W.heap[D]? = some (.deferred (some [])))
      (fun pre W => ∃ c, Ix c pre W ∧ W.heap[D + 1]? = some (.loop (rec .done (some c))) ∧ W.heap[D]? = some (.deferred (some [])))
      w1 b1 (fun s A B h hC => ⟨hIT s A B h.1 hC, keeps_at hC nT.2 h.2.1, keeps_at hC nT.1 h.2.2⟩)
      (fun s A B h hC => h.imp fun c h => ⟨hIxT c s A B h.1 hC, keeps_at hC nT.2 h.2.1, keeps_at hC nT.1 h.2.2⟩) ?_ ⟨i1, r1, d1⟩).mono ?_
    · -- a round
      rintro pre x W ⟨hi, hl, hd⟩ hlen
      have hlt : D + 1 < W.heap.size := (Array.getElem?_eq_some_iff.1 hl).1
      have hy := run_yield (P := P) (args := encs x) hl (by rw [hrec]; exact hps x)
      rw [hrec] at hy
      refine ⟨fn, _, assign, body, hy, roundIn_of_wpIn hfn (hassign _ x W _ ⟨_, run_beginRound hl (by rw [hrec]), ?_⟩)⟩
      obtain ⟨W2, hW2⟩ : ∃ W2, W.putObj (D + 1) (.loop { rec .ready none with state := .busy }) = W2 := ⟨_, rfl⟩
      have hl2 : W2.heap[D + 1]? = some (.loop { rec .ready none with state := .busy }) := by rw [← hW2]; exact World.putObj_heap_same hlt
      have hd2 : W2.heap[D]? = some (.deferred (some [])) := by rw [← hW2]; exact (World.putObj_heap_other (by omega)).trans hd
      have hk2 : Keep R W W2 := by rw [← hW2]; exact Keep.putObj nR
      have hi2 : I pre W2 := by rw [← hW2]; exact hI.putObj _ hi (by omega) hl rfl
      rw [show (W.putObj (D + 1) _) = W2 from hW2]
      refine wpIn_mono (hbody _ pre x _ hi2 hlen) ?_
      have fin : ∀ (jump : Option Code) (W3 : World), KeepsFrom w.heap.size W2 W3 →
          (Instr.endRound (D + 1) jump).run P W3 = .ok (.bool jump.isNone) (W3.putObj (D + 1) (.loop (rec (if jump.isNone then .ready else .done) jump))) ∧
          W3.heap[D + 1]? = some (.loop { rec .ready none with state := .busy }) ∧
          (W3.putObj (D + 1) (.loop (rec (if jump.isNone then .ready else .done) jump))).heap[D + 1]? = some (.loop (rec (if jump.isNone then .ready else .done) jump)) ∧
          (W3.putObj (D + 1) (.loop (rec (if jump.isNone then .ready else .done) jump))).heap[D]? = some (.deferred (some [])) := fun jump W3 hk3 => by
        have hl3 := hk3.same _ _ (by omega) hl2 rfl
        have := run_endRound (P := P) jump hl3
        rw [hrec] at this ⊢
        exact ⟨this, by rw [hrec] at hl3; exact hl3, World.putObj_heap_same (Array.getElem?_eq_some_iff.1 hl3).1, (World.putObj_heap_other (by omega)).trans (hk3.same _ _ (by omega) hd2 rfl)⟩
      intro e a3 W3 hp
      cases e with
      | normal =>
        obtain ⟨hk3, hkp3, hi3⟩ := hp
        obtain ⟨hr, hl3, hl4, hd4⟩ := fin none W3 hk3
        exact ⟨_, _, hr, .inl ⟨rfl, ⟨hI.putObj _ hi3 (by omega) hl3 rfl, hl4, hd4⟩, (hk2.trans hkp3).trans (Keep.putObj nR)⟩⟩
      | ret =>
        obtain ⟨hr, hl3, hl4, hd4⟩ := fin (some .ret) W3 hp.1
        exact ⟨_, _, hr, .inr ⟨rfl, .ret, (hIx _).putObj _ hp.2 (by omega) hl3 rfl, hl4, hd4⟩⟩
      | exit id =>
        obtain ⟨hr, hl3, hl4, hd4⟩ := fin (some (.exit id)) W3 hp.1
        exact ⟨_, _, hr, .inr ⟨rfl, .exit id, (hIx _).putObj _ hp.2 (by omega) hl3 rfl, hl4, hd4⟩⟩
      | goto t =>
        obtain ⟨hr, hl3, hl4, hd4⟩ := fin (some (.goto t)) W3 hp.1
        exact ⟨_, _, hr, .inr ⟨rfl, .goto t, (hIx _).putObj _ hp.2 (by omega) hl3 rfl, hl4, hd4⟩⟩
      | panic ch => exact hp.elim
      | outgrown => exact hp.elim
    · -- behind the iterator
      rintro e W2 ⟨⟨v, rfl⟩, (⟨xs, hS, hi, hl, hd⟩ | ⟨pre, hSp, c, hi, hl, hd⟩)⟩
      · exact ⟨none, _, by have := run_endLoop (P := P) hl (by rw [hrec]; simp); rw [hrec] at this; exact this, hdone D xs _ (by omega) hS (hI.putObj _ hi (by omega) hl rfl) ((World.putObj_heap_other (by omega)).trans hd)⟩
      · exact ⟨some c, _, by have := run_endLoop (P := P) hl (by rw [hrec]; simp); rw [hrec] at this; exact this, wpIn_wide.2 (hstop D c pre _ (by omega) hSp ((hIx c).putObj _ hi (by omega) hl rfl) ((World.putObj_heap_other (by omega)).trans hd))⟩
end Go.Proofs.Ytnjnajbdpaaikaa
