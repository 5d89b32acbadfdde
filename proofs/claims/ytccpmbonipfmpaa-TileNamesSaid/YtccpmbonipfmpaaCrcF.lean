/- A byte's entry is made. -/
import Derived.Test.YtccpmbonipfmpaaCrc
namespace Go.Proofs.Ytccpmbonipfmpaa
open Go.RowKit Go.Shelf
attribute [local go_sem] Oper.semAt_some

theorem lows_seq (Bs c : Nat) (hc : c < 4294967296) (w : World) (hBs : w.cell? ⟨Bs, 0, none⟩ = some (.int .u32 c)) (hfz : w.frozen? ⟨Bs, 0, none⟩ = false) :
    SeqT Try.prog 62 #[.pointer (some ⟨Bs, 0, none⟩)] encL (fun k => k = Bs) (fun k => k = Bs) (fun ys => ys = lowsL c 8) (fun _ => True) 8 w := fun l J Jx W hW hJ _ hY h0 =>
  lows1_in l Bs c hc J Jx hY W hJ ((hW.cell (p := ⟨Bs, 0, none⟩) (cell_lt hBs)).trans hBs) ((Chg.of_below hW).frozen hBs hfz (by have := cell_lt hBs; simp at this ⊢; omega)) h0

/-- The register behind what was told. -/
def lastN (c : Nat) (l : List (Nat × Bool)) : Int := match l.getLast? with
  | none => c
  | some x => if x.2 then bits .xor .u32 (x.1 : Int) 3988292384 else x.1
theorem lastN_snoc (c : Nat) (l : List (Nat × Bool)) (x : Nat × Bool) : lastN c (l ++ [x]) = if x.2 then bits .xor .u32 (x.1 : Int) 3988292384 else x.1 := by simp [lastN]
theorem lastN_lows {c : Nat} (hc : c < 4294967296) (k : Nat) : lastN c (lowsL c k) = (regN c k : Nat) := by
  cases k with
  | zero => rfl
  | succ k =>
    have hq := regN_lt hc k
    rw [lowsL_succ, lastN_snoc]
    show _ = ((stepN (regN c k) : Nat) : Int)
    unfold stepN
    by_cases h : regN c k % 2 = 1
    · rw [if_pos (by simpa using h), if_pos h]
      exact xor_u32 _ _ (by simp only; omega) (by decide)
    · rw [if_neg (by simpa using h), if_neg h]

/-- A byte's entry is made, and nothing else. -/
def Filled (w : World) (b i : Nat) (e : Ending) (w' : World) : Prop :=
  (∃ v, e = .returned v) ∧ Chg (fun j => j = b) w w' ∧ w'.cell? ⟨b, i, none⟩ = some (.int .u32 (tabN i : Nat)) ∧ (∀ j, j ≠ i → w'.cell? ⟨b, j, none⟩ = w.cell? ⟨b, j, none⟩) ∧ (∀ j, w'.frozen? ⟨b, j, none⟩ = w.frozen? ⟨b, j, none⟩)

theorem KeepsOthers.drew (W : World) : KeepsOthers W W.drew := ⟨Nat.le_refl _, fun _ _ h _ => h⟩

/-- fill's end. -/
theorem fill_leave {w W : World} {D b i n0 : Nat} {v0 : Value} {t : Array Value} (hK : W.heap[D]? = some (.deferred (some []))) (hb : b < w.heap.size) (hD : n0 ≤ D)
    (hc : W.cell? ⟨b, i, none⟩ = some v0) (_hf : W.frozen? ⟨b, i, none⟩ = false) (hB : Below w.heap.size w W) (hn : w.heap.size ≤ n0) :
    bodyPostM Fence.wide 8 Try.prog Try.f60 (Filled w b i) .ret { tmps := t, defers := [{ target := .collected D, args := #[] }] } ((W.setCell ⟨b, i, none⟩ (.int .u32 (regN i 8 : Nat))).drew) := by
  have hK' := ((KeepsOthers.setCell W ⟨b, i, none⟩ (.int .u32 (regN i 8 : Nat))).trans (KeepsOthers.drew _)).same D _ hK rfl
  have hbl : (((W.setCell ⟨b, i, none⟩ (.int .u32 (regN i 8 : Nat))).drew).putObj D (.deferred none)).heap[b]? = (W.setCell ⟨b, i, none⟩ (.int .u32 (regN i 8 : Nat))).heap[b]? := World.putObj_heap_other (by omega)
  have hC : Chg (fun k => w.heap.size ≤ k) w W := Chg.of_below hB
  refine leave_mark (v := .tuple #[]) hK' ?_ ⟨⟨_, rfl⟩, ?_, ?_, fun j hj => ?_, fun j => ?_⟩
  · simp [results, Try.f60, go_sem]
  · exact ((((hC.mono (T := fun j => j = b ∨ w.heap.size ≤ j) (fun _ _ h => .inr h)).setCell (p := ⟨b, i, none⟩) (.inl (.inl rfl)) _).drew).putObj (.inl (.inr (by omega))) _).mono (fun k hk h => h.elim id (fun h => by omega))
  · exact (World.cell?_of_block hbl).trans (World.cell?_setCell_same' _ _ _ (by rw [hc]; rfl))
  · exact ((World.cell?_of_block hbl).trans (World.cell?_setCell_other _ _ _ _ (by first | (simp; done) | (simp; omega)))).trans (hB.cell (p := ⟨b, j, none⟩) hb)
  · exact (World.frozen?_of_block hbl).trans ((World.frozen?_setCell _ _ _ _).trans (World.frozen?_of_block (hB.block b hb)))

set_option maxRecDepth 100000 in
set_option maxHeartbeats 1000000 in
theorem fill_any (b i : Nat) (w : World) (hi : i < 256) (v0 : Value) (hc : w.cell? ⟨b, i, none⟩ = some v0) (hf : w.frozen? ⟨b, i, none⟩ = false) :
    Calls Try.prog 60 #[.pointer (some ⟨b, 0, none⟩), .int .i64 i] w (Filled w b i) := by
  have hb : b < w.heap.size := cell_lt hc
  have hwr : IntKind.u32.wrap (i : Int) = i := wrap_u32n (by omega)
  obtain ⟨w0, hw0⟩ : ∃ w0, (w.alloc (.cells #[.int .u32 i] 44)).alloc (.cells #[.int .u32 i] 44) = w0 := ⟨_, rfl⟩
  have s0 : w0.heap.size = w.heap.size + 1 + 1 := by rw [← hw0]; simp
  have hF : Chg (fun _ => False) w w0 := by rw [← hw0]; exact ((Chg.refl _ w).alloc _).alloc _
  have c1 : w0.cell? ⟨w.heap.size, 0, none⟩ = some (.int .u32 i) ∧ w0.frozen? ⟨w.heap.size, 0, none⟩ = false := by
    have h1 := new_cell w #[.int .u32 i] 44 (i := 0) rfl
    rw [← hw0]
    exact ⟨alloc_cell h1 _, alloc_frozen h1 (new_frozen w _ _ _) _⟩
  have c2 : w0.cell? ⟨w.heap.size + 1, 0, none⟩ = some (.int .u32 i) ∧ w0.frozen? ⟨w.heap.size + 1, 0, none⟩ = false := by
    have h1 := new_cell (w.alloc (.cells #[.int .u32 i] 44)) #[.int .u32 i] 44 (i := 0) rfl
    have h2 := new_frozen (w.alloc (.cells #[.int .u32 i] 44)) #[.int .u32 i] 44 0
    rw [World.size_alloc] at h1 h2
    rw [← hw0]
    exact ⟨h1, h2⟩
  have HW0 := Lib.hid hw0
  clear hw0
  (refine calls_of_wp_marks Try.func60 rfl ?_; simp only [Try.ntmps60, List.size_toArray, List.length_cons, List.length_nil, Nat.reduceAdd, Nat.reduceSub, Array.replicate_succ, Array.replicate_zero, List.push_toArray, List.append_toArray, List.nil_append, List.cons_append])
  go_step3
  go_wp2
  go_step3
  go_wp2_with (go_at_call 61; refine (lows_any _ _).mono ?_; rintro e w' ⟨rfl, rfl⟩)
  rw [HW0.out]
  refine wp_rangeT (gf := 62) (lb := #[.pointer (some ⟨w.heap.size + 1, 0, none⟩)]) (R := fun k => k = w.heap.size + 1) (T := fun k => k = w.heap.size + 1) rfl (enters_of Try.func62 (by kernel_rfl) rfl)
    (fun k h => by omega) (fun k h => by omega) (lows_seq _ i (by omega) w0 c2.1 c2.2) (fun _ => rfl)
    (fun pre W => (W.cell? ⟨w.heap.size, 0, none⟩ = some (.int .u32 (lastN i pre)) ∧ W.frozen? ⟨w.heap.size, 0, none⟩ = false) ∧ Below w.heap.size w W)
    (fun _ _ _ => False)
    (OwnFrom.and (Own.from (fun s A B row hs hg hr => ⟨cell_kept hs.1 hg hr, (frozen_kept hs.1 hg hr).trans hs.2⟩) _) (ownFrom_below (Nat.le_refl _) (by omega)))
    (fun _ _ _ _ _ hs => hs.elim)
    (fun s A B hs hC => ⟨⟨hC.cell hs.1.1 (by simp), hC.frozen hs.1.1 hs.1.2 (by simp)⟩, hs.2.trans (hC.belowB hs.2.size (fun k h => by omega))⟩)
    (fun _ _ _ _ hs => hs.elim) ⟨c1, hF.below⟩ ?a1 ?assign ?body ?done ?stop
  case assign =>
    intro l x W K hK
    simp only [encL]
    gi_wp2
    exact hK
  case body =>
    rintro l pre ⟨q, out⟩ W ⟨⟨c1, f1⟩, hB⟩ _
    clear c2 hF hc hf
    cases out with
    | false =>
      gi_wp2
      refine ⟨(KeepsOthers.setCell _ _ _).from _, Keep.setCell _ (by simp), ⟨?_, by rw [World.frozen?_setCell]; exact f1⟩, hB.setCell (p := ⟨w.heap.size, 0, none⟩) (Nat.le_refl _) _⟩
      rw [lastN_snoc, if_neg (by simp)]
      exact World.cell?_setCell_same' _ _ _ (by rw [c1]; rfl)
    | true =>
      gi_wp2
      refine ⟨((KeepsOthers.setCell _ _ _).trans (KeepsOthers.setCell _ _ _)).from _, (Keep.setCell _ (by simp)).trans (Keep.setCell _ (by simp)), ⟨?_, by rw [World.frozen?_setCell, World.frozen?_setCell]; exact f1⟩,
        (hB.setCell (p := ⟨w.heap.size, 0, none⟩) (Nat.le_refl _) _).setCell (p := ⟨w.heap.size, 0, none⟩) (Nat.le_refl _) _⟩
      rw [lastN_snoc, if_pos rfl]
      exact World.cell?_setCell_same' _ _ _ (by rw [World.cell?_setCell_same' _ _ _ (by rw [c1]; rfl)]; rfl)
  case done =>
    rintro D ys W hD rfl ⟨⟨c1, f1⟩, hB⟩ hK
    rw [lastN_lows (by omega)] at c1
    have hc' : W.cell? ⟨b, i, none⟩ = some v0 := (hB.cell (p := ⟨b, i, none⟩) hb).trans hc
    have hf' : W.frozen? ⟨b, i, none⟩ = false := (Chg.of_below hB).frozen hc hf (by simp; omega)
    clear c2 hF
    go_wp2
    go_region
    all_goals
      go_wp2
      exact fill_leave hK hb hD hc' hf' hB (by omega)
  case stop => exact fun _ _ _ _ _ _ h => h.elim
end Go.Proofs.Ytccpmbonipfmpaa
