/- mold: lengths, collected. -/
import Derived.Test.YtceooipljhjpaaaMdF
import Derived.Test.YtceooipljhjpaaaIn
namespace Go.Proofs.Ytceooipljhjpaaa
open Go.RowKit Go.Shelf
attribute [local go_sem] Oper.semAt_some

/-- What is collected so far: a slice in a box. -/
def ColI (b base : Nat) (w1 : World) (pre : List Int) (W : World) : Prop := (∃ v, W.cell? ⟨b, 0, none⟩ = some v ∧ W.frozen? ⟨b, 0, none⟩ = false ∧ Own W base 3 v pre) ∧ Chg (fun q => q = b) w1 W
theorem ColI.own (b base : Nat) (w1 : World) (N : Nat) (h1 : w1.heap.size ≤ N) : OwnFrom N (ColI b base w1) := by
  rintro pre A C row ⟨⟨v, h, hf, ho⟩, hC⟩ hg hr
  exact ⟨⟨v, cell_kept h hg (fun r e => (hr r e).2), (frozen_kept h hg (fun r e => (hr r e).2)).trans hf, owns_kept ho hg (fun r e => (hr r e).2)⟩, hC.grown hg (fun k e => .inr (Nat.le_trans h1 (hr k e).1))⟩
theorem ColI.abides (b base : Nat) (w1 : World) : AbidesT (fun _ => False) (ColI b base w1) := by
  rintro pre A C ⟨⟨v, h, hf, ho⟩, hC⟩ hD
  exact ⟨⟨v, hD.cell h id, hD.frozen h hf id, ho.fr hD⟩, hC.trans hD (fun _ _ h => h) (fun _ _ h => h.elim)⟩
theorem mkeeps_grown {W w1 : World} {base : Nat} {e : TypeId} {sz n : Nat} {v : Value} {xs : List Value} (h : W.ownsRow base e sz v n xs) (hg : W.grownBy w1 v.ownBlock) : KeepsOthers W w1 := by
  refine KeepsOthers.of_grownBy hg ?_
  intro j ob hj hob
  rcases h.2 with ⟨rfl, _⟩ | ⟨g, cap, cur, rfl, hb, hgg, r⟩
  · simp [Value.ownBlock] at hj
  · have : g = j := by simpa [Value.ownBlock] using hj
    subst this
    rw [hgg] at hob
    cases hob
    rfl
theorem own_ne {W : World} {base t D : Nat} {v : Value} {xs : List Int} {o : Obj} (h : Own W base t v xs) (hK : W.heap[D]? = some o) (ho : o.isCells = false) : ∀ q, v.ownBlock = some q → q ≠ D := by
  rintro q hq rfl
  rcases h.2 with ⟨rfl, _⟩ | ⟨g, cap, cur, rfl, hb, hgg, r⟩
  · simp [Value.ownBlock] at hq
  · have : g = q := by simpa [Value.ownBlock] using hq
    subst this
    rw [hgg] at hK
    cases hK
    simp [Obj.isCells] at ho
theorem as_leave {w W : World} {D base : Nat} {ys : List Int} {v : Value} {t : Array Value} (hK : W.heap[D]? = some (.deferred (some []))) (hD : w.heap.size ≤ D) (hC : Chg (fun _ => False) w W) (hb : w.heap.size ≤ base) (ho : Own W base 3 v ys) (h4 : t[4]?.getD undef = v) :
    bodyPostM Fence.wide 8 Try.prog Try.f96 (GaveL 3 w ys) .ret { tmps := t, defers := [{ target := .collected D, args := #[] }] } W := by
  refine leave_mark (v := v) hK ?_ ⟨v, rfl, ?_, hC.putObj (.inr hD) _⟩
  · simp [results, Try.f96, go_sem, h4]
  · exact (ho.chg ((Chg.refl (fun q => q = D) W).putObj (.inl rfl) _) (fun q hq e => own_ne ho hK rfl q hq e)).mono hb
set_option maxHeartbeats 1000000 in
theorem appendSeq_any (gf : Nat) (lb : Array Value) (eg : ∀ args w, (callFunc gf args).run Try.prog w = .ok (.enter gf args) w) (ys : List Int) (Sp : List Int → Prop) (R : Nat → Prop) (N : Nat) (w : World) (hys : ys.length ≤ 1000000) (hN : N ≤ 1000000) (hR : ∀ k, R k → k < w.heap.size)
    (hseq : ∀ w', Chg (fun _ => False) w w' → SeqT Try.prog gf lb encL R (fun _ => False) (fun l => l = ys) Sp N w') : Calls Try.prog 96 #[.slice none 0 0, .func (.func gf) #[] lb] w (GaveL 3 w ys) := by
  obtain ⟨i0, hi, hz0, hz1, hz2⟩ := info_parts info_int
  obtain ⟨w1, hw1⟩ : ∃ w1, w.alloc (.cells #[.slice none 0 0] 22) = w1 := ⟨_, rfl⟩
  have hC1 : Chg (fun _ => False) w w1 := by rw [← hw1]; exact (Chg.refl _ w).alloc _
  have c0 : w1.cell? ⟨w.heap.size, 0, none⟩ = some (.slice none 0 0) := by rw [← hw1]; exact new_cell w _ _ rfl
  have f0 : w1.frozen? ⟨w.heap.size, 0, none⟩ = false := by rw [← hw1]; exact new_frozen w _ _ 0
  have hsz : w1.heap.size = w.heap.size + 1 := by rw [← hw1]; simp
  have HSQ := Lib.hid (hseq w1 hC1)
  clear hseq
  (refine calls_of_wp_marks Try.func96 rfl ?_; simp only [Try.ntmps96, List.size_toArray, List.length_cons, List.length_nil, Nat.reduceAdd, Nat.reduceSub, Array.replicate_succ, Array.replicate_zero, List.push_toArray, List.append_toArray, List.nil_append, List.cons_append])
  go_wp2
  clear hw1
  refine wp_rangeT (gf := gf) (lb := lb) (R := R) (T := fun _ => False) rfl eg (fun q h => h.elim) (fun q h => by have := hR q h; omega) HSQ.out (fun _ => rfl)
    (ColI w.heap.size w1.heap.size w1) (fun _ _ _ => False) (ColI.own _ _ _ _ (Nat.le_refl _)) (fun c => fun _ _ _ _ h => h.elim) (ColI.abides _ _ _) (fun c => fun _ _ _ h => h.elim) ⟨⟨_, c0, f0, Own.nil _ _ _⟩, Chg.refl _ _⟩ ?a1 ?assign ?body ?done ?stop
  case assign =>
    intro l x W K hK
    simp only [encL]
    gi_wp2
    exact hK
  case body =>
    rintro l pre x W ⟨⟨v, c2, f2, hown⟩, hC⟩ hlen
    obtain ⟨ao, L, cp, rfl, hL⟩ := owns_name hown
    have hbl := Lib.hid hlen
    have HO := Lib.hid hown
    have HCW := Lib.hid hC
    have hszW : w.heap.size + 1 ≤ W.heap.size := by have := hC.size; omega
    clear c0 f0 hC1 hlen hown
    gi_wp2_with (gi_at_builtin; go_must (refine wpListIn_append_own_any rfl (.tmp 8) (.tmp 10) 22 rfl w1.heap.size 3 i0 (.int .i64 0) 1 8 Try.underlying22 hi hz0 hz1 hz2 rfl (by decide) _ pre.length (pre.map I) rfl (HO.out.alloc _) (some ⟨W.heap.size, 0, none⟩) 1 1 [.int .i64 x] rfl rfl (fun j u hu => ⟨_, rfl, cell_one_new W _ _ j u hu⟩) (by simp [Value.oneCell']) (by have := hbl.out; unfold maxLen; omega) (by have := hbl.out; omega) (by have := HCW.out.size; simp; omega) ?_); intro v2 w2 hown2 hg _ _; have h3 : Chg (fun q => (Value.slice ao L cp).ownBlock = some q) W w2 := (Chg.mono ((Chg.refl (fun _ => False) W).alloc _) (fun _ _ h => h.elim)).grown hg (fun k e => .inl e); have hne1 : ¬ (Value.slice ao L cp).ownBlock = some w.heap.size := (fun e => by have := (HO.out.lt _ e).1; omega); have k2 := h3.cell c2 hne1; have kf := h3.frozen c2 f2 hne1; have HG := Lib.hid hg; obtain ⟨ao2, L2, cp2, rfl, hL2⟩ := owns_name hown2)
    have hch : Chg (fun q => (Value.slice ao L cp).ownBlock = some q ∨ q = w.heap.size) W (w2.setCell ⟨w.heap.size, 0, none⟩ (.slice ao2 L2 cp2)) := h3.trans ((Chg.refl (fun q => q = w.heap.size) w2).setCell (p := ⟨w.heap.size, 0, none⟩) (.inl rfl) _) (fun _ _ h => .inl h) (fun _ _ h => .inr h)
    have hel : Own w2 w1.heap.size 3 (.slice ao2 L2 cp2) (pre ++ [x]) := by
      unfold Own
      rw [List.length_append, List.map_append]
      exact hown2
    refine ⟨(((KeepsOthers.alloc W _).trans (mkeeps_grown (HO.out.alloc _) HG.out)).trans (KeepsOthers.setCell _ _ _)).from _, Keep.of_chg hch (fun q hq => ?_), ⟨⟨_, World.cell?_setCell_same' _ _ _ (by rw [k2]; rfl), by rw [World.frozen?_setCell]; exact kf, own_set hel (a := ⟨w.heap.size, 0, none⟩) (by simp; omega) _⟩, HCW.out.trans hch (fun _ _ h => h) (fun i hi h => ?_)⟩⟩
    · have h1 := hR q hq
      exact ⟨by omega, fun h => h.elim (fun e => by have := (HO.out.lt _ e).1; omega) (fun e => by omega)⟩
    · rcases h with h | h
      · have := (HO.out.lt _ h).1
        omega
      · exact h
  case done =>
    rintro D xs W hD rfl ⟨⟨v, c2, f2, hown⟩, hC⟩ hK
    obtain ⟨ao, L, cp, rfl, hL⟩ := owns_name hown
    clear c0 f0
    go_wp2
    exact as_leave hK (by omega) (hC1.trans hC (fun _ _ h => h) (fun i hi e => by omega)) (by omega) hown rfl
  case stop => exact fun _ _ _ _ _ _ h => h.elim
theorem collect_any (gf : Nat) (lb : Array Value) (eg : ∀ args w, (callFunc gf args).run Try.prog w = .ok (.enter gf args) w) (ys : List Int) (Sp : List Int → Prop) (R : Nat → Prop) (N : Nat) (w : World) (hys : ys.length ≤ 1000000) (hN : N ≤ 1000000) (hR : ∀ k, R k → k < w.heap.size)
    (hseq : ∀ w', Chg (fun _ => False) w w' → SeqT Try.prog gf lb encL R (fun _ => False) (fun l => l = ys) Sp N w') : Calls Try.prog 61 #[.func (.func gf) #[] lb] w (GaveL 3 w ys) := by
  have h1 := appendSeq_any gf lb eg ys Sp R N w hys hN hR hseq
  clear hseq
  go_enter Try.func61, Try.ntmps61
  go_wp2_with fail
  refine h1.mono ?_
  clear h1
  rintro e9 w1 ⟨v, rfl, ho, hC⟩
  obtain ⟨a, c, rfl⟩ := own_name ho
  go_wp2
  go_ret
  exact ⟨_, rfl, ho, hC⟩
end Go.Proofs.Ytceooipljhjpaaa
