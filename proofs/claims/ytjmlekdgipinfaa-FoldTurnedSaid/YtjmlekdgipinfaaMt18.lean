/- turn: the way by axes, one place of it. -/
import Derived.Test.YtjmlekdgipinfaaMt16
import Derived.Test.YtjmlekdgipinfaaMt17
import Derived.Deep.DeepCutAuto
namespace Go.Proofs.Ytjmlekdgipinfaa
open Go.RowKit Go.Shelf
attribute [local go_sem] Oper.semAt_some

theorem numbers_seq (b1 b2 : Nat) (v : Value) (S : List Int) (n : Int) (hb : b1 ≠ b2) (hvb : v.ownBlock ≠ some b2) (hsh : shB S = true) (h0 : 0 ≤ n) (hn : n ≤ 4096) (hpos : ∀ x ∈ S, 0 < x) (w : World)
    (hc1 : w.cell? ⟨b1, 0, none⟩ = some v) (hc2 : w.cell? ⟨b2, 0, none⟩ = some (.int .i64 n)) (hf2 : w.frozen? ⟨b2, 0, none⟩ = false) (hS : Ls w v S) (hvl : ∀ k, v.ownBlock = some k → k < w.heap.size) :
    SeqT Try.prog 142 #[.pointer (some ⟨b1, 0, none⟩), .pointer (some ⟨b2, 0, none⟩)] (encF S n) (fun k => k = b2 ∨ k = b1 ∨ v.ownBlock = some k) (fun k => k = b2) (fun ys => ys = downF S.length S.length) (fun pre => ∃ k, k ≤ S.length ∧ pre = downF S.length k) S.length w := fun l J Jx W hW hJ _ hY h0' =>
  numbers1_in l b1 b2 v S n hb hvb hsh h0 hn hpos J Jx hY W hJ ((hW.cell (p := ⟨b1, 0, none⟩) (cell_lt hc1)).trans hc1) ((hW.cell (p := ⟨b2, 0, none⟩) (cell_lt hc2)).trans hc2)
    ((Chg.of_below hW).frozen hc2 hf2 (by have := cell_lt hc2; simp at this ⊢; omega)) (hS.chg (Chg.of_below hW) (fun k hk h => by have := hvl k hk; omega)) h0'
theorem below_drew {B : Nat} {w W : World} (h : Below B w W) : Below B w W.drew := ⟨h.os, h.tape, h.output, h.size, h.block⟩
/-- by$1's end. -/
theorem by1_leave {w W : World} {D : Nat} {P : Int} {t : Array Value} (hK : W.heap[D]? = some (.deferred (some []))) (hD : w.heap.size ≤ D) (hB : Below w.heap.size w W) (h5 : t[5]?.getD undef = .int .i64 0) (h6 : t[6]?.getD undef = .int .i64 P) :
    bodyPostM Fence.wide 8 Try.prog Try.f140 (GaveII w 0 P) .ret { tmps := t, defers := [{ target := .collected D, args := #[] }] } W := by
  refine leave_mark (v := .tuple #[.int .i64 0, .int .i64 P]) hK ?_ ⟨rfl, ?_⟩
  · simp [results, Try.f140, go_sem, h5, h6]
  · exact ((Chg.of_below hB).putObj (.inr hD) _).nothing
def ByI (w : World) (x7 x8 : Nat) (S T : List Int) (n : Int) (pre : List (Fin S.length)) (W : World) : Prop :=
  ((W.cell? ⟨x7, 0, none⟩ = some (.int .i64 (sumF S T n pre)) ∧ W.frozen? ⟨x7, 0, none⟩ = false) ∧ (W.cell? ⟨x8, 0, none⟩ = some (.int .i64 ((S.length : Int) - pre.length)) ∧ W.frozen? ⟨x8, 0, none⟩ = false)) ∧ Below w.heap.size w W
def ByX (w : World) (x7 : Nat) (S T : List Int) (n : Int) (c : Code) (pre : List (Fin S.length)) (W : World) : Prop :=
  (c = .exit 0 ∧ pre.length = S.length ∧ W.cell? ⟨x7, 0, none⟩ = some (.int .i64 (sumF S T n pre))) ∧ Below w.heap.size w W
theorem ByI.own {w : World} {x7 x8 : Nat} {S T : List Int} {n : Int} {B : Nat} (hB : w.heap.size ≤ B) : OwnFrom B (ByI w x7 x8 S T n) :=
  OwnFrom.and (Go.Own.from (fun _ _ _ _ hs hg hr => ⟨⟨cell_kept hs.1.1 hg hr, (frozen_kept hs.1.1 hg hr).trans hs.1.2⟩, ⟨cell_kept hs.2.1 hg hr, (frozen_kept hs.2.1 hg hr).trans hs.2.2⟩⟩) _) (ownFrom_below (Nat.le_refl _) hB)
theorem ByX.own {w : World} {x7 : Nat} {S T : List Int} {n : Int} {B : Nat} (c : Code) (hB : w.heap.size ≤ B) : OwnFrom B (ByX w x7 S T n c) :=
  OwnFrom.and (Go.Own.from (fun _ _ _ _ hs hg hr => ⟨hs.1, hs.2.1, cell_kept hs.2.2 hg hr⟩) _) (ownFrom_below (Nat.le_refl _) hB)
theorem ByI.abides {w : World} {x7 x8 b2 : Nat} {S T : List Int} {n : Int} (h7 : x7 ≠ b2) (h8 : x8 ≠ b2) (hb : w.heap.size ≤ b2) : AbidesT (fun k => k = b2) (ByI w x7 x8 S T n) :=
  fun _ _ _ hs hC => ⟨⟨⟨hC.cell hs.1.1.1 h7, hC.frozen hs.1.1.1 hs.1.1.2 h7⟩, ⟨hC.cell hs.1.2.1 h8, hC.frozen hs.1.2.1 hs.1.2.2 h8⟩⟩, hs.2.trans (hC.belowB hs.2.size (fun k h => by omega))⟩
theorem ByX.abides {w : World} {x7 b2 : Nat} {S T : List Int} {n : Int} (c : Code) (h7 : x7 ≠ b2) (hb : w.heap.size ≤ b2) : AbidesT (fun k => k = b2) (ByX w x7 S T n c) :=
  fun _ _ _ hs hC => ⟨⟨hs.1.1, hs.1.2.1, hC.cell hs.1.2.2 h7⟩, hs.2.trans (hC.belowB hs.2.size (fun k h => by omega))⟩
set_option maxRecDepth 100000 in
set_option maxHeartbeats 20000000 in
theorem by1_any (bt bs bst : Nat) (ato : Option Addr) (cto : Nat) (vs vst : Value) (S T : List Int) (n : Int) (w : World) (ct : w.cell? ⟨bt, 0, none⟩ = some (.slice ato S.length cto)) (cs : w.cell? ⟨bs, 0, none⟩ = some vs) (cst : w.cell? ⟨bst, 0, none⟩ = some vst)
    (hS : Ls w vs S) (hT : Ls w vst T) (hl2 : T.length = S.length) (hsh : shB S = true) (hTb : ∀ x ∈ T, 0 ≤ x ∧ x ≤ 4096) (h0 : 0 ≤ n) (hn : n < prodL S) (hlt : ∀ k, vs.ownBlock = some k → k < w.heap.size) (hlt2 : ∀ k, vst.ownBlock = some k → k < w.heap.size) :
    Calls Try.prog 140 (#[.int .i64 n] ++ #[.pointer (some ⟨bt, 0, none⟩), .pointer (some ⟨bs, 0, none⟩), .pointer (some ⟨bst, 0, none⟩)]) w (GaveII w 0 (placeF S T n)) := by
  obtain ⟨aS, cS, rfl, _⟩ := hS.form
  obtain ⟨aT, cT, rfl, _⟩ := hT.form
  have hs := shB_iff.1 hsh
  have hpos := pos_of_prod (s := S) (fun l hl => (hs.2.1 l hl).1) (by omega)
  have hn4 : n ≤ 4096 := by have := hs.2.2; omega
  have hlen := hs.1
  have HB := Lib.hid (fun l hl => (hs.2.1 l hl).2)
  have HP := Lib.hid hpos
  have HT := Lib.hid hT
  have HS := Lib.hid hS
  have HSH := Lib.hid hsh
  have ht1 : bt < w.heap.size := cell_lt ct
  have ht2 : bs < w.heap.size := cell_lt cs
  have ht3 : bst < w.heap.size := cell_lt cst
  have ht4 : bt < w.heap.size + 1 := Nat.lt_succ_of_lt ht1
  clear hs hpos hT hS hsh
  (refine calls_of_wp_marks Try.func140 rfl ?_; simp only [Try.ntmps140, List.size_toArray, List.length_cons, List.length_nil, Nat.reduceAdd, Nat.reduceSub, Array.replicate_succ, Array.replicate_zero, List.push_toArray, List.append_toArray, List.nil_append, List.cons_append])
  go_wp2
  go_step3
  go_wp2
  go_cut [7, 8] from 9 to 30 (fun s7 s8 wx => ∃ x7 x8, s7 = .pointer (some ⟨x7, 0, none⟩) ∧ s8 = .pointer (some ⟨x8, 0, none⟩) ∧ x7 ≠ x8 ∧ (wx.cell? ⟨x7, 0, none⟩ = some (.int .i64 0) ∧ wx.frozen? ⟨x7, 0, none⟩ = false) ∧ (wx.cell? ⟨x8, 0, none⟩ = some (.int .i64 S.length) ∧ wx.frozen? ⟨x8, 0, none⟩ = false) ∧ Chg (fun _ => False) w wx ∧ w.heap.size ≤ x7 ∧ w.heap.size ≤ x8)
  case first =>
    go_region
    all_goals go_wp2
    all_goals go_meet
    · exact ⟨_, _, rfl, rfl, by omega, ⟨nn0 _ _ _ _ _, alloc_frozen (new_cell w _ _ rfl) (new_frozen w _ _ 0) _⟩, ⟨nn1 _ _ _ _ _, nn1f _ _ _ _ _⟩, (((Chg.refl _ w).alloc _).alloc _).drew, Nat.le_refl _, Nat.le_succ _⟩
    · exact ⟨_, _, rfl, rfl, by omega, ⟨nn1 _ _ _ _ _, nn1f _ _ _ _ _⟩, ⟨nn0 _ _ _ _ _, alloc_frozen (new_cell w _ _ rfl) (new_frozen w _ _ 0) _⟩, (((Chg.refl _ w).alloc _).alloc _).drew, Nat.le_succ _, Nat.le_refl _⟩
  case rest =>
    obtain ⟨x7, x8, rfl, rfl, hne, ⟨c7, f7⟩, ⟨c8, f8⟩, hCc, h7, h8⟩ := hcut
    have hbc : wc.cell? ⟨bs, 0, none⟩ = some (.slice aS S.length cS) := hCc.cell cs id
    have hnum := numbers_any aS S.length cS n wc
    obtain ⟨w2, hw2⟩ : ∃ w2, (wc.alloc (.cells #[.slice aS S.length cS] 22)).alloc (.cells #[.int .i64 n] 3) = w2 := ⟨_, rfl⟩
    have s2 : w2.heap.size = wc.heap.size + 1 + 1 := by rw [← hw2]; simp
    have hC2 : Chg (fun _ => False) wc w2 := by rw [← hw2]; exact ((Chg.refl _ wc).alloc _).alloc _
    have b1c : w2.cell? ⟨wc.heap.size, 0, none⟩ = some (.slice aS S.length cS) := by rw [← hw2]; exact nn0 _ _ _ _ _
    have b2c : w2.cell? ⟨wc.heap.size + 1, 0, none⟩ = some (.int .i64 n) := by rw [← hw2]; exact nn1 _ _ _ _ _
    have b2f : w2.frozen? ⟨wc.heap.size + 1, 0, none⟩ = false := by rw [← hw2]; exact nn1f _ _ _ _ _
    rw [hw2] at hnum
    have hszc : w.heap.size ≤ wc.heap.size := hCc.size
    have l7 : x7 < wc.heap.size := cell_lt c7
    have l8 : x8 < wc.heap.size := cell_lt c8
    have hCw := hCc.tr hC2
    have hS2 := HS.out.fr hCw
    replace f7 := hC2.frozen c7 f7 id
    replace f8 := hC2.frozen c8 f8 id
    replace c7 := hC2.cell c7 id
    replace c8 := hC2.cell c8 id
    clear hw2
    go_wp2
    go_step3
    go_wp2_with (go_at_call 141; refine hnum.mono ?_; rintro e9 w2 ⟨rfl, rfl⟩)
    have hseq := numbers_seq wc.heap.size (wc.heap.size + 1) (.slice aS S.length cS) S n (by omega) (fun e => by have := hlt _ e; omega) HSH.out h0 hn4 HP.out w2 b1c b2c b2f hS2 (fun k hk => by have := hlt k hk; omega)
    have hBw2 : Below w.heap.size w w2 := hCw.below
    have HSQ := Lib.hid hseq
    have HLT := Lib.hid hlt
    have HLT2 := Lib.hid hlt2
    have HTB := Lib.hid hTb
    clear hseq hlt hlt2 hTb
    refine wp_rangeT (gf := 142) (lb := #[.pointer (some ⟨wc.heap.size, 0, none⟩), .pointer (some ⟨wc.heap.size + 1, 0, none⟩)]) (R := fun k => k = wc.heap.size + 1 ∨ k = wc.heap.size ∨ Value.ownBlock (.slice aS S.length cS) = some k) (T := fun k => k = wc.heap.size + 1) rfl (enters_of Try.func142 (by kernel_rfl) rfl)
      (fun k h => by omega) (fun k h => by rcases h with h | h | h; omega; omega; have := HLT.out k h; omega) HSQ.out (fun _ => rfl)
      (ByI w x7 x8 S T n) (fun c => ByX w x7 S T n c) (ByI.own (by omega)) (fun c => ByX.own c (by omega)) (ByI.abides (by omega) (by omega) (by omega)) (fun c => ByX.abides c (by omega) (by omega))
      ⟨⟨⟨c7, f7⟩, ⟨by rw [List.length_nil, Int.natCast_zero, Int.sub_zero]; exact c8, f8⟩⟩, hBw2⟩ ?a1 ?assign ?body ?done ?stop
    case assign =>
      intro l x W K hK
      simp only [encF]
      gi_wp2
      exact hK
    case body =>
      rintro l pre i W ⟨⟨⟨d7, g7⟩, ⟨d8, g8⟩⟩, hB⟩ hpl
      have dst := (hB.cell (p := ⟨bst, 0, none⟩) ht3).trans cst
      have hTW := HT.out.chg (Chg.of_below hB) (fun k hk h => by have := HLT2.out k hk; omega)
      have hil : i.val < T.length := by rw [hl2]; exact i.isLt
      have hil' : ((i.val : Nat) : Int) < (T.length : Int) := by omega
      have hi0 : (0 : Int) ≤ ((i.val : Nat) : Int) := by omega
      obtain ⟨b, o, c', e1, hc⟩ := hTW.at hil
      injection e1 with e1 e2 e3
      clear e2 e3
      subst e1
      obtain ⟨hd0, hd1⟩ := digL_bd (n := n) i HP.out HB.out
      obtain ⟨ht0, hh1⟩ := HTB.out _ (List.getElem_mem hil)
      obtain ⟨m0, m1⟩ := mul_bd hd0 hd1 ht0 hh1
      obtain ⟨q0, q1⟩ := sumF_bd (n := n) HP.out HB.out HTB.out pre
      have hgd : T.getD i.val 0 = T[i.val] := by rw [List.getD, List.getElem?_eq_getElem hil]; rfl
      have HSN := Lib.hid (sumF_snoc S T n pre i)
      rw [hgd] at HSN
      generalize digL S n i = dg at *
      generalize T[i.val] = tv at *
      obtain ⟨pr, hpr⟩ : ∃ pr, dg * tv = pr := ⟨_, rfl⟩
      rw [hpr] at HSN m0 m1
      generalize hsf : sumF S T n pre = sf at *
      have w1 : IntKind.i64.wrap (sf + pr) = sf + pr := IntWalk.i64_in _ (by omega)
      have w2' : IntKind.i64.wrap pr = pr := IntWalk.i64_in _ (by omega)
      obtain ⟨lf, hlf⟩ : ∃ lf, (S.length : Int) - pre.length = lf := ⟨_, rfl⟩
      rw [hlf] at d8
      have e7 : x7 ≠ wc.heap.size + 1 := by omega
      have hne' : ¬ x8 = x7 := fun e => hne e.symm
      have HX := Lib.hid hBw2
      have HCF := Lib.hid hpr
      have HLF := Lib.hid hlf
      have HPL := Lib.hid hpl
      clear c7 f7 c8 f8 b1c b2c b2f hS2 hBw2 hCw hC2 hCc cs ct cst hbc HSQ hsf hpr hlf hpl hTW hil hgd
      have HWV := Lib.hid (show wrap64 (sf + wrap64 (dg * tv)) = sf + pr by rw [HCF.out, show wrap64 pr = pr by rw [show wrap64 pr = IntKind.i64.wrap pr by rw [IntKind.wrap_i64, wrap64]]; exact w2', show wrap64 (sf + pr) = sf + pr by rw [show wrap64 (sf + pr) = IntKind.i64.wrap (sf + pr) by rw [IntKind.wrap_i64, wrap64]]; exact w1])
      have hn7 : ¬ (x7 = wc.heap.size + 1 ∨ x7 = wc.heap.size ∨ Value.ownBlock (.slice aS S.length cS) = some x7) := fun h => by rcases h with h | h | h; omega; omega; have := HLT.out _ h; omega
      have hn8 : ¬ (x8 = wc.heap.size + 1 ∨ x8 = wc.heap.size ∨ Value.ownBlock (.slice aS S.length cS) = some x8) := fun h => by rcases h with h | h | h; omega; omega; have := HLT.out _ h; omega
      have HN7 := Lib.hid hn7
      have HN8 := Lib.hid hn8
      clear hn7 hn8
      by_cases hz : lf = 1
      · subst hz
        gi_wp2
        gi_region
        all_goals gi_wp2
        all_goals
          refine ⟨(((KeepsOthers.setCell _ _ _).trans (KeepsOthers.setCell _ _ _)).trans (KeepsOthers.drew _)).from _, ⟨rfl, ?_, ?_⟩, below_drew ((hB.setCell (p := ⟨x7, 0, none⟩) h7 _).setCell (p := ⟨x8, 0, none⟩) h8 _)⟩
          · have := HLF.out; simp; omega
          · show World.cell? ((W.setCell ⟨x7, 0, none⟩ _).setCell ⟨x8, 0, none⟩ _) ⟨x7, 0, none⟩ = _
            rw [ss0 d7 hne, HWV.out, HSN.out]
      · have w3 : IntKind.i64.wrap (lf - 1) = lf - 1 := IntWalk.i64_in _ (by have := HLF.out; have := HPL.out; omega)
        have hb : ((lf - 1) == 0) = false := beq_eq_false_iff_ne.2 (by omega)
        gi_wp2
        gi_region
        all_goals gi_wp2
        all_goals
          refine ⟨(((KeepsOthers.setCell _ _ _).trans (KeepsOthers.setCell _ _ _)).trans (KeepsOthers.drew _)).from _, ((Keep.setCell _ HN7.out).trans (Keep.setCell _ HN8.out)).trans ⟨Nat.le_refl _, fun _ _ => rfl⟩, ⟨⟨⟨?_, ?_⟩, ⟨?_, ?_⟩⟩, below_drew ((hB.setCell (p := ⟨x7, 0, none⟩) h7 _).setCell (p := ⟨x8, 0, none⟩) h8 _)⟩⟩
          · show World.cell? ((W.setCell ⟨x7, 0, none⟩ _).setCell ⟨x8, 0, none⟩ _) ⟨x7, 0, none⟩ = _
            rw [ss0 d7 hne, HWV.out, HSN.out]
          · show World.frozen? ((W.setCell ⟨x7, 0, none⟩ _).setCell ⟨x8, 0, none⟩ _) ⟨x7, 0, none⟩ = _
            rw [World.frozen?_setCell, World.frozen?_setCell]; exact g7
          · show World.cell? ((W.setCell ⟨x7, 0, none⟩ _).setCell ⟨x8, 0, none⟩ _) ⟨x8, 0, none⟩ = _
            rw [ss1 d8 hne, List.length_append, List.length_singleton]
            have := HLF.out
            refine congrArg (fun z => some (Value.int .i64 z)) ?_
            omega
          · show World.frozen? ((W.setCell ⟨x7, 0, none⟩ _).setCell ⟨x8, 0, none⟩ _) ⟨x8, 0, none⟩ = _
            rw [World.frozen?_setCell, World.frozen?_setCell]; exact g8
    case done =>
      rintro D ys W hD rfl ⟨⟨⟨d7, g7⟩, _⟩, hB⟩ hK
      clear c7 f7 c8 f8 b1c b2c b2f hS2 hBw2 hCw hC2 hCc cs ct cst hbc HSQ
      go_wp2
      go_quiet (fail)
      go_wp2
      exact by1_leave hK (by omega) (hB.trans (below_drewN' _ _ _)) rfl rfl
    case stop =>
      rintro D c pre W hD ⟨k, hk, rfl⟩ ⟨⟨rfl, hpl, d7⟩, hB⟩ hK
      rw [downF_length hk] at hpl
      subst hpl
      clear c7 f7 c8 f8 b1c b2c b2f hS2 hBw2 hCw hC2 hCc cs ct cst hbc HSQ
      go_wp2
      go_quiet (fail)
      go_wp2
      exact by1_leave hK (by omega) (hB.trans (below_drewN' _ _ _)) rfl rfl
end Go.Proofs.Ytjmlekdgipinfaa
