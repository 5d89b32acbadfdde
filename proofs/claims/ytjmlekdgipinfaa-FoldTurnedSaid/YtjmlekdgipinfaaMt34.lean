/- fold: numbers made one by one, each with its error. -/
import Derived.Test.YtjmlekdgipinfaaMt33
import Derived.Test.YtjmlekdgipinfaaMt8
namespace Go.Proofs.Ytjmlekdgipinfaa
open Go.RowKit Go.Shelf

/-- A function of a number from 0 on, with its error. -/
def FnP (w : World) (gf : Nat) (pb lb : Array Value) (N : Nat) (el : Nat → Int × Int) : Prop :=
  (∀ args w, (callFunc gf args).run Try.prog w = .ok (.enter gf args) w) ∧ ∀ i, i < N → ∀ w', Chg (fun _ => False) w w' → Calls Try.prog gf (pb.push (.int .i64 i) ++ lb) w' (GaveP w' (el i).1 (el i).2)
theorem FnP.fr {w w' : World} {gf : Nat} {pb lb : Array Value} {N : Nat} {el : Nat → Int × Int} (h : FnP w gf pb lb N el) (hC : Chg (fun _ => False) w w') : FnP w' gf pb lb N el := ⟨h.1, fun i hi w2 h2 => h.2 i hi w2 (hC.tr h2)⟩
/-- Numbers under way in block b. -/
structure Mdk (w W : World) (b base : Nat) (vs v : Value) (xs : List Int) : Prop where
  bx : Bx W b (.int .i64 1) vs v
  el : Own W base 2 v xs
  ch : Chg (fun _ => False) w W
  lb : w.heap.size ≤ b
  lt : b < base
theorem Mdk.fr {w W W' : World} {b base : Nat} {vs v : Value} {xs : List Int} (h : Mdk w W b base vs v xs) (hC : Chg (fun _ => False) W W') : Mdk w W' b base vs v xs :=
  ⟨h.bx.fr hC, h.el.fr hC, h.ch.tr hC, h.lb, h.lt⟩
theorem Mdk.more {w W Wa w2 : World} {b base : Nat} {x : Int} {vs v v2 : Value} {xs : List Int} {n : Nat} (h : Mdk w W b base vs v xs) (hA : Chg (fun _ => False) W Wa) (hg : Wa.grownBy w2 v.ownBlock)
    (h2 : w2.ownsRow base 2 1 v2 n (xs.map I ++ [.int .i64 x])) (hn : n = xs.length + 1) :
    (w2.cell? ⟨b, 2, none⟩ = some v ∧ w2.frozen? ⟨b, 2, none⟩ = false) ∧ Mdk w (w2.setCell ⟨b, 2, none⟩ v2) b base vs v2 (xs ++ [x]) := by
  subst hn
  have h3 : Chg (fun q => v.ownBlock = some q) W w2 := (Chg.mono hA (fun _ _ h => h.elim)).grown hg (fun k e => .inl e)
  have hbx := h.bx.chg h3 (fun e => by have := (h.el.lt b e).1; have := h.lt; omega)
  have hel : Own w2 base 2 v2 (xs ++ [x]) := by
    unfold Own
    rw [List.length_append, List.map_append]
    exact h2
  have hch : Chg (fun _ => False) w w2 := h.ch.trans h3 (fun _ _ h => h) (fun i hi e => by have := (h.el.lt i e).1; have := h.lt; have := h.lb; omega)
  exact ⟨⟨hbx.c2, hbx.f2⟩, hbx.set2 v2, own_set hel (a := ⟨b, 2, none⟩) h.lt v2, hch.setCell (p := ⟨b, 2, none⟩) (.inr h.lb) v2, h.lb, h.lt⟩
def GaveMd (w : World) (v : Value) (n : Nat) (el : Nat → Int × Int) (e : Ending) (w' : World) : Prop := ∃ k vs ve, e = .returned (.tuple #[.agg #[.int .i64 k, vs, ve], .int .i64 (mdE n el)]) ∧ Chg (fun _ => False) w w' ∧
  (mdE n el = 0 → k = 1 ∧ vs = v ∧ Own w' w.heap.size 2 ve (tabV n el)) ∧ (mdE n el ≠ 0 → k = 0 ∧ vs = .slice none 0 0 ∧ ve = .slice none 0 0)
set_option maxRecDepth 100000 in
set_option maxHeartbeats 2000000 in
theorem made_any (v : Value) (s : List Int) (n gf : Nat) (pb lb : Array Value) (el : Nat → Int × Int) (w : World) (hS : Ls w v s) (hsh : shB s = true) (hn : prodL s = (n : Int)) (hF : FnP w gf pb lb n el) : Calls Try.prog 45 #[v, .func (.func gf) pb lb] w (GaveMd w v n el) := by
  obtain ⟨sa, cs, rfl, _⟩ := hS.form
  obtain ⟨i0, hi, hz0, hz1, hz2⟩ := info_parts info_long
  have hn1 : n ≤ 4096 := by have := (shB_iff.1 hsh).2.2; omega
  have hC0 := (Chg.refl (fun _ => False) w).alloc (.cells #[.int .i64 0, .slice none 0 0, .slice none 0 0] 25)
  have hB0 := Bx.new w (.int .i64 0) (.slice none 0 0) (.slice none 0 0) 25
  have hcnt := count_any _ s _ (hS.fr hC0)
  unfold GaveC at hcnt
  rw [cntN_ok hsh, cntE_ok hsh, hn] at hcnt
  have HF := Lib.hid hF
  have eg := hF.1
  clear hsh hn hF hS
  go_enter Try.func45, Try.ntmps45
  go_wp2_with fail
  refine hcnt.mono ?_
  clear hcnt
  rintro e9 w1 ⟨rfl, hw1⟩
  rw [← hw1] at hC0 hB0
  clear hw1
  have hs1 : w.heap.size + 1 ≤ w1.heap.size := by have := hB0.lt; omega
  have hM0 : Mdk w1 (w1.alloc (.cells #[.int .i64 1, .slice sa s.length cs, .slice none 0 0] 25)) w1.heap.size (w1.alloc (.cells #[.int .i64 1, .slice sa s.length cs, .slice none 0 0] 25)).heap.size (.slice sa s.length cs) (.slice none 0 0) [] :=
    ⟨Bx.new w1 _ _ _ _, Own.nil _ _ _, (Chg.refl _ _).alloc _, Nat.le_refl _, by simp⟩
  go_wp2
  obtain ⟨W0, hW0⟩ : ∃ W0, w1.alloc (.cells #[.int .i64 1, .slice sa s.length cs, .slice none 0 0] 25) = W0 := ⟨_, rfl⟩
  have hsz : W0.heap.size = w1.heap.size + 1 := by rw [← hW0]; simp
  rw [hW0] at hM0 ⊢
  clear hW0
  have HSZ := Lib.hid hsz
  clear hsz
  go_loopw [20] (fun i wr => ∃ j : Nat, j ≤ n ∧ i = .int .i64 j ∧ fstE (tabP j el) = 0 ∧ (∃ v, Mdk w1 wr w1.heap.size W0.heap.size (.slice sa s.length cs) v (tabV j el))) (fun i _ => n - (intOf i).toNat)
  case atStart => exact ⟨0, Nat.zero_le _, rfl, rfl, ⟨_, hM0⟩⟩
  case round =>
    obtain ⟨j, hj, rfl, hfe, ⟨v, hM⟩⟩ := hrel
    clear hM0
    obtain ⟨xs, hxs⟩ : ∃ xs, tabV j el = xs := ⟨_, rfl⟩
    have hxl : xs.length = j := by rw [← hxs, tabV_length]
    rw [hxs] at hM
    obtain ⟨al, Ll, cl, rfl, hL⟩ := own_nm hM.el
    have hch := hM.ch
    have HFE := Lib.hid hfe
    by_cases hlt : j < n
    · have hlt' : (j : Int) < (n : Int) := by omega
      have hkw : IntKind.i64.wrap ((j : Int) + 1) = (j : Int) + 1 := IntWalk.i64_in _ (by omega)
      have HT := Lib.hid (show tabV (j + 1) el = xs ++ [(el j).1] by rw [tabV_succ, hxs])
      have HE1 := Lib.hid (fstE_succ (n := j) hfe)
      have HE2 := Lib.hid (show (el j).2 ≠ 0 → mdE n el = (el j).2 from fun h => by
        unfold mdE
        rw [← fstE_succ (n := j) hfe] at h ⊢
        exact fstE_all hlt h)
      have hfl := HF.out.2 j hlt wr (hC0.tr hch)
      obtain ⟨⟨y, ey⟩, hy⟩ : ∃ q, el j = q := ⟨_, rfl⟩
      rw [hy] at hfl HT HE1 HE2
      unfold GaveP at hfl
      simp only at hfl HT HE1 HE2
      have HM3 := Lib.hid hM
      have hm1 : n - (j + 1) < n - j := by omega
      have HM1 := Lib.hid hm1
      have HW := Lib.hid (hC0.tr hch)
      have HJ := Lib.hid (And.intro hlt (And.intro hxl hn1))
      clear hM hch hxs hm1 hy hfe hlt hxl
      go_wp2_with fail
      refine hfl.mono ?_
      clear hfl
      rintro e9 w3 ⟨rfl, hC3⟩
      have hM3 := HM3.out.fr hC3
      by_cases he : ey = 0
      · subst he
        have c2 := hM3.bx.c2
        have f2 := hM3.bx.f2
        have hblt : w1.heap.size < w3.heap.size := hM3.bx.lt
        have hw4 : W0.heap.size ≤ w3.heap.size := by have := HSZ.out; omega
        have HM4 := Lib.hid hM3
        clear hM3 hC3 hB0
        go_wp2_with (at_builtin; refine wpList_append_own_any rfl (.tmp 34) (.tmp 36) 23 rfl W0.heap.size 2 i0 (.int .i64 0) 1 8 Try.underlying23 hi hz0 hz1 hz2 rfl (by decide) (.slice al Ll cl) xs.length (xs.map I) rfl (HM4.out.el.alloc _) (some ⟨w3.heap.size, 0, none⟩) 1 1 [.int .i64 y] rfl rfl (fun j u hu => ⟨_, rfl, cell_one_new w3 _ _ j u hu⟩) (by simp [Value.oneCell']) (by have := HJ.out; unfold maxLen; omega) (by have := HJ.out; omega) (by simp; omega) ?_; intro v2 w4 hown2 hg2 _ hO2; obtain ⟨⟨hd1, hd2⟩, hM4⟩ := HM4.out.more ((Chg.refl _ w3).alloc _) hg2 hown2 rfl; obtain ⟨al2, L2, cl2, rfl, hL2⟩ := own_nm hM4.el)
        go_roundw
        case rel => exact ⟨j + 1, HJ.out.1, by go_num, HE1.out, ⟨_, by rw [HT.out]; exact hM4⟩⟩
        case measure => exact HM1.out
      · have eb : (ey != 0) = true := bne_iff_ne.2 he
        have HR := Lib.hid (show mdE n el = ey ∧ ey ≠ 0 from ⟨HE2.out he, he⟩)
        have HC3 := Lib.hid (HW.out.tr hC3)
        obtain ⟨z0, z1, z2, x0', x1', x2'⟩ := hB0.fr (HM3.out.ch.tr hC3)
        obtain ⟨⟨g0, g1⟩, g2⟩ := set3_cells (.int .i64 0) (.slice none 0 0) (.slice none 0 0) z0 z1 z2
        clear he hM3 hC3 hB0
        go_wp2
        simp [bodyPost, results, Try.results45, go_sem, g0, g1, g2]
        refine ⟨_, _, _, by rw [HR.out.1], chg_set3 HC3.out (Nat.le_refl _) _ _ _, fun h => absurd (HR.out.1.symm.trans h) HR.out.2, fun _ => ⟨rfl, rfl, rfl⟩⟩
    · obtain rfl : j = n := by omega
      have hj2 : ¬ (j : Int) < (j : Int) := by omega
      have HX := Lib.hid hxs
      have c0 := hM.bx.c0
      have c1 := hM.bx.c1
      have c2 := hM.bx.c2
      have HM := Lib.hid hM
      have HR := Lib.hid (show mdE j el = 0 from hfe)
      obtain ⟨z0, z1, z2, x0', x1', x2'⟩ := hB0.fr hM.ch
      obtain ⟨⟨g0, g1⟩, g2⟩ := set3_cells (.int .i64 1) (.slice sa s.length cs) (.slice al Ll cl) z0 z1 z2
      have HC := Lib.hid (hC0.tr hch)
      clear hxs hM hch hfe hB0
      go_wp2
      simp [bodyPost, results, Try.results45, go_sem, g0, g1, g2]
      refine ⟨_, _, _, by rw [HR.out], chg_set3 HC.out (Nat.le_refl _) _ _ _, fun _ => ⟨rfl, rfl, ?_⟩, fun h => absurd HR.out h⟩
      rw [HX.out]
      exact (own_set3 HM.out.el (by have := HSZ.out; omega) _ _ _).mono (by have := HSZ.out; omega)
end Go.Proofs.Ytjmlekdgipinfaa
