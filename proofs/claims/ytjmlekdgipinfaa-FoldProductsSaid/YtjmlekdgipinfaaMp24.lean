/- Ways compared; what comes by them, or an error; arrays written over. -/
import Derived.Test.YtjmlekdgipinfaaMp10
import Derived.Test.YtjmlekdgipinfaaMp23
namespace Go.Proofs.Ytjmlekdgipinfaa
open Go.RowKit Go.Shelf

/-- The slice v of n numbers may be written. -/
def Wrt (w : World) (v : Value) (n : Nat) : Prop := ∀ j, j < n → ∃ b o c x, v = .slice (some ⟨b, o, none⟩) n c ∧ w.cell? ⟨b, o + j, none⟩ = some (.int .i64 x) ∧ w.frozen? ⟨b, o + j, none⟩ = false
theorem Wrt.of {w : World} {base t : Nat} {v : Value} {xs : List Int} (h : Own w base t v xs) : Wrt w v xs.length := by
  intro j hj
  obtain ⟨b, o, c, e, hc⟩ := h.ls.at hj
  refine ⟨b, o, c, _, e, hc, ?_⟩
  rcases h.2 with ⟨h0, h1⟩ | ⟨g, cap, cur, h0, _, hg, _⟩
  · omega
  · rw [h0] at e
    injection e with e _ _
    injection e with e
    injection e with e e2 _
    subst e e2
    unfold World.frozen?
    simp only
    rw [hg]
    simp
theorem Wrt.chg {S : Nat → Prop} {w w' : World} {v : Value} {n : Nat} (h : Wrt w v n) (hC : Chg S w w') (hn : ∀ k, v.ownBlock = some k → ¬ S k) : Wrt w' v n := by
  intro j hj
  obtain ⟨b, o, c, x, e, hc, hf⟩ := h j hj
  have hb : ¬ S b := hn b (by rw [e]; rfl)
  exact ⟨b, o, c, x, e, hC.cell hc hb, hC.frozen hc hf hb⟩
theorem Wrt.set {w : World} {v : Value} {n : Nat} (h : Wrt w v n) (p : Addr) (y : Int) : Wrt (w.setCell p (.int .i64 y)) v n := by
  intro j hj
  obtain ⟨b, o, c, x, e, hc, hf⟩ := h j hj
  by_cases hp : p = ⟨b, o + j, none⟩
  · subst hp
    exact ⟨b, o, c, y, e, World.cell?_setCell_same' _ _ _ (by rw [hc]; rfl), by rw [World.frozen?_setCell]; exact hf⟩
  · exact ⟨b, o, c, x, e, by rw [World.cell?_setCell_other _ _ _ _ hp]; exact hc, by rw [World.frozen?_setCell]; exact hf⟩
/-- Written over, and nothing else is. -/
def Spoilt (w : World) (vs ve : Value) (e : Ending) (w' : World) : Prop := (∃ v, e = .returned v) ∧ Chg (fun q => vs.ownBlock = some q ∨ ve.ownBlock = some q) w w'
set_option maxRecDepth 100000 in
set_option maxHeartbeats 1000000 in
theorem spoil_any (k : Int) (vs ve : Value) (s e : List Int) (b1 b2 : Nat) (w : World) (hs : Own w b1 3 vs s) (he : Own w b2 2 ve e) (hsl : s.length ≤ 1000000) (hel : e.length ≤ 1000000) : Calls Try.prog 33 #[.agg #[.int .i64 k, vs, ve]] w (Spoilt w vs ve) := by
  obtain ⟨sa, cs, rfl⟩ := own_name hs
  obtain ⟨ea, ce, rfl⟩ := own_name he
  have hlt1 := fun q (h : (Value.slice sa s.length cs).ownBlock = some q) => (hs.lt q h).2
  have hlt2 := fun q (h : (Value.slice ea e.length ce).ownBlock = some q) => (he.lt q h).2
  have n1 : ¬ ((Value.slice sa s.length cs).ownBlock = some w.heap.size ∨ (Value.slice ea e.length ce).ownBlock = some w.heap.size) := fun h => h.elim (fun h => by have := hlt1 _ h; omega) (fun h => by have := hlt2 _ h; omega)
  have hC0 := Chg.mono ((Chg.refl (fun _ => False) w).alloc (.cells #[.int .i64 k, .slice sa s.length cs, .slice ea e.length ce] 25)) (T := fun q => (Value.slice sa s.length cs).ownBlock = some q ∨ (Value.slice ea e.length ce).ownBlock = some q) (fun _ _ h => h.elim)
  obtain ⟨x0, x1, x2⟩ := cell_two w (.int .i64 k) (.slice sa s.length cs) (.slice ea e.length ce) 25
  have hW1 := (Wrt.of hs).chg ((Chg.refl (fun _ => False) w).alloc (.cells #[.int .i64 k, .slice sa s.length cs, .slice ea e.length ce] 25)) (fun _ _ => id)
  have hW2 := (Wrt.of he).chg ((Chg.refl (fun _ => False) w).alloc (.cells #[.int .i64 k, .slice sa s.length cs, .slice ea e.length ce] 25)) (fun _ _ => id)
  obtain ⟨W0, hW0⟩ : ∃ W0, w.alloc (.cells #[.int .i64 k, .slice sa s.length cs, .slice ea e.length ce] 25) = W0 := ⟨_, rfl⟩
  rw [hW0] at hC0 x0 x1 x2 hW1 hW2
  have hsz : w.heap.size < W0.heap.size := cell_lt x0
  have HW := Lib.hid hW0
  have HW1 := Lib.hid hW1
  have HW2 := Lib.hid hW2
  clear hs he hlt1 hlt2 hW0 hW1 hW2
  go_enter Try.func33, Try.ntmps33
  go_wp2
  rw [HW.out]
  go_loopw [7] (fun i wr => ∃ j : Nat, j ≤ e.length ∧ i = .int .i64 j ∧ Wrt wr (.slice sa s.length cs) s.length ∧ Wrt wr (.slice ea e.length ce) e.length ∧ Chg (fun q => (Value.slice sa s.length cs).ownBlock = some q ∨ (Value.slice ea e.length ce).ownBlock = some q) W0 wr) (fun i _ => e.length - (intOf i).toNat)
  case atStart => exact ⟨0, Nat.zero_le _, rfl, HW1.out, HW2.out, Chg.refl _ _⟩
  case round =>
    obtain ⟨j, hj, rfl, hs1, he1, hC⟩ := hrel
    have y2 := hC.cell x2 n1
    have y1 := hC.cell x1 n1
    by_cases hlt : j < e.length
    · have hlt' : (j : Int) < (e.length : Int) := by omega
      have hj0 : (0 : Int) ≤ (j : Int) := by omega
      have hkw : IntKind.i64.wrap ((j : Int) + 1) = (j : Int) + 1 := IntWalk.i64_in _ (by omega)
      obtain ⟨b, o, c, x, e1, hc, hf⟩ := he1 j hlt
      injection e1 with e1 e3 e4
      clear e3 e4
      subst e1
      have HS := Lib.hid (hs1.set ⟨b, o + j, none⟩ (IntKind.i64.wrap (x + 1)))
      have HE := Lib.hid (he1.set ⟨b, o + j, none⟩ (IntKind.i64.wrap (x + 1)))
      have HC := Lib.hid (hC.setCell (p := ⟨b, o + j, none⟩) (.inl (.inr rfl)) (.int .i64 (IntKind.i64.wrap (x + 1))))
      generalize hz : IntKind.i64.wrap (x + 1) = z at *
      clear hs1 he1 hC
      go_wp2
      go_roundw
      case rel => exact ⟨j + 1, hlt, by go_num, HS.out, HE.out, HC.out⟩
      case measure => exact fit_meas j e.length hlt
    · obtain rfl : j = e.length := by omega
      have HS := Lib.hid hs1
      have HC := Lib.hid hC
      clear hs1 he1 hC
      go_wp2
      go_loopw [21] (fun i wr => ∃ j : Nat, j ≤ s.length ∧ i = .int .i64 j ∧ Wrt wr (.slice sa s.length cs) s.length ∧ Chg (fun q => (Value.slice sa s.length cs).ownBlock = some q ∨ (Value.slice ea e.length ce).ownBlock = some q) W0 wr) (fun i _ => s.length - (intOf i).toNat)
      case atStart => exact ⟨0, Nat.zero_le _, rfl, HS.out, HC.out⟩
      case round =>
        obtain ⟨j, hj, rfl, hs1, hC⟩ := hrel
        replace y1 := hC.cell x1 n1
        clear y2
        by_cases hlt : j < s.length
        · have hlt' : (j : Int) < (s.length : Int) := by omega
          have hj0 : (0 : Int) ≤ (j : Int) := by omega
          have hkw : IntKind.i64.wrap ((j : Int) + 1) = (j : Int) + 1 := IntWalk.i64_in _ (by omega)
          obtain ⟨b, o, c, x, e1, hc, hf⟩ := hs1 j hlt
          injection e1 with e1 e3 e4
          clear e3 e4
          subst e1
          have HS := Lib.hid (hs1.set ⟨b, o + j, none⟩ (IntKind.i64.wrap (x + 1)))
          have HC := Lib.hid (hC.setCell (p := ⟨b, o + j, none⟩) (.inl (.inl rfl)) (.int .i64 (IntKind.i64.wrap (x + 1))))
          generalize hz : IntKind.i64.wrap (x + 1) = z at *
          clear hs1 hC
          go_wp2
          go_roundw
          case rel => exact ⟨j + 1, hlt, by go_num, HS.out, HC.out⟩
          case measure => exact fit_meas j s.length hlt
        · obtain rfl : j = s.length := by omega
          go_wp2
          go_end0
          exact ⟨⟨_, rfl⟩, hC0.trans hC (fun _ _ h => h) (fun _ _ h => h)⟩
/-- What comes of an array by a way. -/
def gonA (Y : Wy) (A : Ar) : Ar := if Y.n = 0 then ⟨A.k, Y.s, Y.g.map (pickG A.k A A)⟩ else noA
end Go.Proofs.Ytjmlekdgipinfaa
/- fold: numbers made one by one, each with its error. -/
namespace Go.Proofs.Ytjmlekdgipinfaa
open Go.RowKit Go.Shelf

/-- A function of a number from 0 on, with its error. -/
def FnP (w : World) (gf : Nat) (pb lb : Array Value) (N : Nat) (el : Nat → Int × Int) : Prop :=
  (∀ args w, (callFunc gf args).run Try.prog w = .ok (.enter gf args) w) ∧ ∀ i, i < N → ∀ w', Chg (fun _ => False) w w' → Calls Try.prog gf (pb.push (.int .i64 i) ++ lb) w' (GaveP w' (el i).1 (el i).2)
theorem FnP.fr {w w' : World} {gf : Nat} {pb lb : Array Value} {N : Nat} {el : Nat → Int × Int} (h : FnP w gf pb lb N el) (hC : Chg (fun _ => False) w w') : FnP w' gf pb lb N el := ⟨h.1, fun i hi w2 h2 => h.2 i hi w2 (hC.tr h2)⟩
/-- Numbers under way in block b. -/
structure Mdk (w W : World) (b base : Nat) (vs v : Value) (xs : List Int) : Prop where
  bx : Bx W b (.int .i64 1) vs v
  el : Own W base 2 v xs
  ch : Chg (fun _ => False) w W
  lb : w.heap.size ≤ b
  lt : b < base
theorem Mdk.fr {w W W' : World} {b base : Nat} {vs v : Value} {xs : List Int} (h : Mdk w W b base vs v xs) (hC : Chg (fun _ => False) W W') : Mdk w W' b base vs v xs :=
  ⟨h.bx.fr hC, h.el.fr hC, h.ch.tr hC, h.lb, h.lt⟩
theorem Mdk.more {w W Wa w2 : World} {b base : Nat} {x : Int} {vs v v2 : Value} {xs : List Int} {n : Nat} (h : Mdk w W b base vs v xs) (hA : Chg (fun _ => False) W Wa) (hg : Wa.grownBy w2 v.ownBlock)
    (h2 : w2.ownsRow base 2 1 v2 n (xs.map I ++ [.int .i64 x])) (hn : n = xs.length + 1) :
    (w2.cell? ⟨b, 2, none⟩ = some v ∧ w2.frozen? ⟨b, 2, none⟩ = false) ∧ Mdk w (w2.setCell ⟨b, 2, none⟩ v2) b base vs v2 (xs ++ [x]) := by
  subst hn
  have h3 : Chg (fun q => v.ownBlock = some q) W w2 := (Chg.mono hA (fun _ _ h => h.elim)).grown hg (fun k e => .inl e)
  have hbx := h.bx.chg h3 (fun e => by have := (h.el.lt b e).1; have := h.lt; omega)
  have hel : Own w2 base 2 v2 (xs ++ [x]) := by
    unfold Own
    rw [List.length_append, List.map_append]
    exact h2
  have hch : Chg (fun _ => False) w w2 := h.ch.trans h3 (fun _ _ h => h) (fun i hi e => by have := (h.el.lt i e).1; have := h.lt; have := h.lb; omega)
  exact ⟨⟨hbx.c2, hbx.f2⟩, hbx.set2 v2, own_set hel (a := ⟨b, 2, none⟩) h.lt v2, hch.setCell (p := ⟨b, 2, none⟩) (.inr h.lb) v2, h.lb, h.lt⟩
def GaveMd (w : World) (v : Value) (n : Nat) (el : Nat → Int × Int) (e : Ending) (w' : World) : Prop := ∃ k vs ve, e = .returned (.tuple #[.agg #[.int .i64 k, vs, ve], .int .i64 (mdE n el)]) ∧ Chg (fun _ => False) w w' ∧
  (mdE n el = 0 → k = 1 ∧ vs = v ∧ Own w' w.heap.size 2 ve (tabV n el)) ∧ (mdE n el ≠ 0 → k = 0 ∧ vs = .slice none 0 0 ∧ ve = .slice none 0 0)
set_option maxRecDepth 100000 in
set_option maxHeartbeats 2000000 in
theorem made_any (v : Value) (s : List Int) (n gf : Nat) (pb lb : Array Value) (el : Nat → Int × Int) (w : World) (hS : Ls w v s) (hsh : shB s = true) (hn : prodL s = (n : Int)) (hF : FnP w gf pb lb n el) : Calls Try.prog 45 #[v, .func (.func gf) pb lb] w (GaveMd w v n el) := by
  obtain ⟨sa, cs, rfl, _⟩ := hS.form
  obtain ⟨i0, hi, hz0, hz1, hz2⟩ := info_parts info_long
  have hn1 : n ≤ 4096 := by have := (shB_iff.1 hsh).2.2; omega
  have hC0 := (Chg.refl (fun _ => False) w).alloc (.cells #[.int .i64 0, .slice none 0 0, .slice none 0 0] 25)
  have hB0 := Bx.new w (.int .i64 0) (.slice none 0 0) (.slice none 0 0) 25
  have hcnt := count_any _ s _ (hS.fr hC0)
  unfold GaveC at hcnt
  rw [cntN_ok hsh, cntE_ok hsh, hn] at hcnt
  have HF := Lib.hid hF
  have eg := hF.1
  clear hsh hn hF hS
  go_enter Try.func45, Try.ntmps45
  go_wp2_with fail
  refine hcnt.mono ?_
  clear hcnt
  rintro e9 w1 ⟨rfl, hw1⟩
  rw [← hw1] at hC0 hB0
  clear hw1
  have hs1 : w.heap.size + 1 ≤ w1.heap.size := by have := hB0.lt; omega
  have hM0 : Mdk w1 (w1.alloc (.cells #[.int .i64 1, .slice sa s.length cs, .slice none 0 0] 25)) w1.heap.size (w1.alloc (.cells #[.int .i64 1, .slice sa s.length cs, .slice none 0 0] 25)).heap.size (.slice sa s.length cs) (.slice none 0 0) [] :=
    ⟨Bx.new w1 _ _ _ _, Own.nil _ _ _, (Chg.refl _ _).alloc _, Nat.le_refl _, by simp⟩
  go_wp2
  obtain ⟨W0, hW0⟩ : ∃ W0, w1.alloc (.cells #[.int .i64 1, .slice sa s.length cs, .slice none 0 0] 25) = W0 := ⟨_, rfl⟩
  have hsz : W0.heap.size = w1.heap.size + 1 := by rw [← hW0]; simp
  rw [hW0] at hM0 ⊢
  clear hW0
  have HSZ := Lib.hid hsz
  clear hsz
  go_loopw [20] (fun i wr => ∃ j : Nat, j ≤ n ∧ i = .int .i64 j ∧ fstE (tabP j el) = 0 ∧ (∃ v, Mdk w1 wr w1.heap.size W0.heap.size (.slice sa s.length cs) v (tabV j el))) (fun i _ => n - (intOf i).toNat)
  case atStart => exact ⟨0, Nat.zero_le _, rfl, rfl, ⟨_, hM0⟩⟩
  case round =>
    obtain ⟨j, hj, rfl, hfe, ⟨v, hM⟩⟩ := hrel
    clear hM0
    obtain ⟨xs, hxs⟩ : ∃ xs, tabV j el = xs := ⟨_, rfl⟩
    have hxl : xs.length = j := by rw [← hxs, tabV_length]
    rw [hxs] at hM
    obtain ⟨al, Ll, cl, rfl, hL⟩ := own_nm hM.el
    have hch := hM.ch
    have HFE := Lib.hid hfe
    by_cases hlt : j < n
    · have hlt' : (j : Int) < (n : Int) := by omega
      have hkw : IntKind.i64.wrap ((j : Int) + 1) = (j : Int) + 1 := IntWalk.i64_in _ (by omega)
      have HT := Lib.hid (show tabV (j + 1) el = xs ++ [(el j).1] by rw [tabV_succ, hxs])
      have HE1 := Lib.hid (fstE_succ (n := j) hfe)
      have HE2 := Lib.hid (show (el j).2 ≠ 0 → mdE n el = (el j).2 from fun h => by
        unfold mdE
        rw [← fstE_succ (n := j) hfe] at h ⊢
        exact fstE_all hlt h)
      have hfl := HF.out.2 j hlt wr (hC0.tr hch)
      obtain ⟨⟨y, ey⟩, hy⟩ : ∃ q, el j = q := ⟨_, rfl⟩
      rw [hy] at hfl HT HE1 HE2
      unfold GaveP at hfl
      simp only at hfl HT HE1 HE2
      have HM3 := Lib.hid hM
      have hm1 : n - (j + 1) < n - j := by omega
      have HM1 := Lib.hid hm1
      have HW := Lib.hid (hC0.tr hch)
      have HJ := Lib.hid (And.intro hlt (And.intro hxl hn1))
      clear hM hch hxs hm1 hy hfe hlt hxl
      go_wp2_with fail
      refine hfl.mono ?_
      clear hfl
      rintro e9 w3 ⟨rfl, hC3⟩
      have hM3 := HM3.out.fr hC3
      by_cases he : ey = 0
      · subst he
        have c2 := hM3.bx.c2
        have f2 := hM3.bx.f2
        have hblt : w1.heap.size < w3.heap.size := hM3.bx.lt
        have hw4 : W0.heap.size ≤ w3.heap.size := by have := HSZ.out; omega
        have HM4 := Lib.hid hM3
        clear hM3 hC3 hB0
        go_wp2_with (at_builtin; refine wpList_append_own_any rfl (.tmp 34) (.tmp 36) 23 rfl W0.heap.size 2 i0 (.int .i64 0) 1 8 Try.underlying23 hi hz0 hz1 hz2 rfl (by decide) (.slice al Ll cl) xs.length (xs.map I) rfl (HM4.out.el.alloc _) (some ⟨w3.heap.size, 0, none⟩) 1 1 [.int .i64 y] rfl rfl (fun j u hu => ⟨_, rfl, cell_one_new w3 _ _ j u hu⟩) (by simp [Value.oneCell']) (by have := HJ.out; unfold maxLen; omega) (by have := HJ.out; omega) (by simp; omega) ?_; intro v2 w4 hown2 hg2 _ hO2; obtain ⟨⟨hd1, hd2⟩, hM4⟩ := HM4.out.more ((Chg.refl _ w3).alloc _) hg2 hown2 rfl; obtain ⟨al2, L2, cl2, rfl, hL2⟩ := own_nm hM4.el)
        go_roundw
        case rel => exact ⟨j + 1, HJ.out.1, by go_num, HE1.out, ⟨_, by rw [HT.out]; exact hM4⟩⟩
        case measure => exact HM1.out
      · have eb : (ey != 0) = true := bne_iff_ne.2 he
        have HR := Lib.hid (show mdE n el = ey ∧ ey ≠ 0 from ⟨HE2.out he, he⟩)
        have HC3 := Lib.hid (HW.out.tr hC3)
        obtain ⟨z0, z1, z2, x0', x1', x2'⟩ := hB0.fr (HM3.out.ch.tr hC3)
        obtain ⟨⟨g0, g1⟩, g2⟩ := set3_cells (.int .i64 0) (.slice none 0 0) (.slice none 0 0) z0 z1 z2
        clear he hM3 hC3 hB0
        go_wp2
        simp [bodyPost, results, Try.results45, go_sem, g0, g1, g2]
        refine ⟨_, _, _, by rw [HR.out.1], chg_set3 HC3.out (Nat.le_refl _) _ _ _, fun h => absurd (HR.out.1.symm.trans h) HR.out.2, fun _ => ⟨rfl, rfl, rfl⟩⟩
    · obtain rfl : j = n := by omega
      have hj2 : ¬ (j : Int) < (j : Int) := by omega
      have HX := Lib.hid hxs
      have c0 := hM.bx.c0
      have c1 := hM.bx.c1
      have c2 := hM.bx.c2
      have HM := Lib.hid hM
      have HR := Lib.hid (show mdE j el = 0 from hfe)
      obtain ⟨z0, z1, z2, x0', x1', x2'⟩ := hB0.fr hM.ch
      obtain ⟨⟨g0, g1⟩, g2⟩ := set3_cells (.int .i64 1) (.slice sa s.length cs) (.slice al Ll cl) z0 z1 z2
      have HC := Lib.hid (hC0.tr hch)
      clear hxs hM hch hfe hB0
      go_wp2
      simp [bodyPost, results, Try.results45, go_sem, g0, g1, g2]
      refine ⟨_, _, _, by rw [HR.out], chg_set3 HC.out (Nat.le_refl _) _ _ _, fun _ => ⟨rfl, rfl, ?_⟩, fun h => absurd HR.out h⟩
      rw [HX.out]
      exact (own_set3 HM.out.el (by have := HSZ.out; omega) _ _ _).mono (by have := HSZ.out; omega)
end Go.Proofs.Ytjmlekdgipinfaa
/- fold: rows. -/
namespace Go.Proofs.Ytjmlekdgipinfaa
open Go.RowKit Go.Shelf

def GaveRw (w : World) (a b : Int) (e : Ending) (w' : World) : Prop := e = .returned (.tuple #[.int .i64 a, .int .i64 b]) ∧ Chg (fun _ => False) w w'
theorem prod_bd {s : List Int} (hsh : shB s = true) (j : Nat) : 0 ≤ prodL (s.take j) ∧ prodL (s.take j) ≤ 281474976710656 := by
  have h := shB_iff.1 hsh
  have h1 : ∀ l ∈ s.take j, 0 ≤ l ∧ l ≤ 4096 := fun l hl => h.2.1 l (List.mem_of_mem_take hl)
  have h2 := prodL_le _ h1
  have h3 : (s.take j).length ≤ 4 := by rw [List.length_take]; omega
  refine ⟨prodL_nonneg _ (fun l hl => (h1 l hl).1), Int.le_trans h2 ?_⟩
  have : (4096 : Int) ^ (s.take j).length ≤ 4096 ^ 4 := by
    generalize (s.take j).length = k at h3
    rcases k with _ | _ | _ | _ | _ | k
    · decide
    · decide
    · decide
    · decide
    · decide
    · omega
  exact Int.le_trans this (by decide)
set_option maxRecDepth 100000 in
set_option maxHeartbeats 1000000 in
theorem rows_any (v : Value) (s : List Int) (w : World) (hS : Ls w v s) : Calls Try.prog 29 #[v] w (GaveRw w (manyN s) (longN s)) := by
  obtain ⟨ao, c, rfl, _⟩ := hS.form
  have hca := count_any _ _ _ hS
  unfold GaveC at hca
  have hlen := hS.len
  cases hsh : shB s with
  | false =>
    rw [cntE_not hsh, cntN_not hsh] at hca
    have HR := Lib.hid (show manyN s = 0 ∧ longN s = 0 by unfold manyN longN; rw [hsh]; exact ⟨rfl, rfl⟩)
    clear hsh hS hlen
    go_enter Try.func29, Try.ntmps29
    go_wp2_with fail
    refine hca.mono ?_
    clear hca
    rintro e9 w1 ⟨rfl, rfl⟩
    go_wp2
    go_ret2
    exact ⟨by rw [HR.out.1, HR.out.2]; rfl, Chg.refl _ _⟩
  | true =>
    rw [cntE_ok hsh, cntN_ok hsh] at hca
    obtain ⟨n, hn⟩ : ∃ n, s.length = n := ⟨_, rfl⟩
    rw [hn] at hS hca ⊢
    have hn4 : n ≤ 4 := by have := (shB_iff.1 hsh).1; omega
    have HS := Lib.hid hS
    have HN := Lib.hid hn
    have HSH := Lib.hid hsh
    have k1 : IntKind.i64.wrap ((n : Int) - 1) = (n : Int) - 1 := IntWalk.i64_in _ (by omega)
    clear hsh hS hn hlen
    go_enter Try.func29, Try.ntmps29
    go_wp2_with fail
    refine hca.mono ?_
    clear hca
    rintro e9 w1 ⟨rfl, rfl⟩
    go_wp2
    go_loopw [2, 3, 17] (fun v2 v3 v17 wr => ∃ j : Nat, j ≤ n ∧ v17 = .int .i64 j ∧ (((j < n ∨ n = 0) ∧ v2 = .int .i64 (prodL (s.take j)) ∧ v3 = .int .i64 1) ∨ (j = n ∧ 0 < n ∧ v2 = .int .i64 (prodL s.dropLast) ∧ v3 = .int .i64 (s.getLastD 1))) ∧ Chg (fun _ => False) w1 wr) (fun _ _ v17 _ => n - (intOf v17).toNat)
    case atStart => exact ⟨0, Nat.zero_le _, rfl, .inl ⟨by omega, rfl, rfl⟩, Chg.refl _ _⟩
    case round =>
      obtain ⟨j, hj, rfl, hdis, hC⟩ := hrel
      by_cases hlt : j < n
      · obtain ⟨_, rfl, rfl⟩ : (j < n ∨ n = 0) ∧ _ ∧ _ := hdis.resolve_right (fun h => by omega)
        have hd : decide (j < n) = true := decide_eq_true hlt
        have hjl : j < s.length := by have := HN.out; omega
        obtain ⟨b, o, c', e, hc⟩ := (HS.out.fr hC).at hjl
        injection e with e e2 e3
        subst e
        clear e2 e3
        have hb := prod_bd HSH.out j
        have hb1 := prod_bd HSH.out (j + 1)
        have HT := Lib.hid (prodL_take s j hjl)
        have hb2 : 0 ≤ prodL (s.take j) * s[j] ∧ prodL (s.take j) * s[j] ≤ 281474976710656 := by rw [← prodL_take s j hjl]; exact hb1
        have HLAST := Lib.hid (show j + 1 = n → prodL s.dropLast = prodL (s.take j) ∧ s.getLastD 1 = s[j] from fun h => by
          have hn := HN.out
          refine ⟨by rw [List.dropLast_eq_take]; congr 2; omega, ?_⟩
          rw [List.getLastD_eq_getLast?, List.getLast?_eq_getElem?, show s.length - 1 = j by omega, List.getElem?_eq_getElem hjl]
          rfl)
        have i1 : (0 : Int) ≤ (j : Int) := by omega
        have i2 : (j : Int) < (n : Int) := by omega
        have kw : IntKind.i64.wrap ((j : Int) + 1) = (j : Int) + 1 := IntWalk.i64_in _ (by omega)
        have HM := Lib.hid (fit_meas j n hlt)
        have HC := Lib.hid hC
        have HJ := Lib.hid hlt
        generalize s[j] = x at *
        generalize prodL (s.take j) = p at *
        have kp : IntKind.i64.wrap (p * x) = p * x := IntWalk.i64_in _ (by omega)
        clear hdis hjl hb hb1 hb2 hC hj
        by_cases hl : j + 1 = n
        · have d1 : ((j : Int) == (n : Int) - 1) = true := by rw [beq_iff_eq]; omega
          have HL := Lib.hid (HLAST.out hl)
          have HE := Lib.hid hl
          clear hl hlt kp
          go_wp2
          go_roundw
          case rel => exact ⟨j + 1, HJ.out, by go_num, .inr ⟨HE.out, by have := HJ.out; omega, by rw [HL.out.1], by rw [HL.out.2]⟩, HC.out⟩
          case measure => exact HM.out
        · have d1 : ((j : Int) == (n : Int) - 1) = false := by rw [beq_eq_false_iff_ne]; omega
          have HE := Lib.hid hl
          clear hl hlt
          go_wp2
          go_roundw
          case rel => exact ⟨j + 1, HJ.out, by go_num, .inl ⟨.inl (by have := HE.out; have := HJ.out; omega), by rw [HT.out], rfl⟩, HC.out⟩
          case measure => exact HM.out
      · obtain rfl : j = n := by omega
        have hd : decide (j < j) = false := decide_eq_false (by omega)
        have HR := Lib.hid (show ∃ a b, manyN s = a ∧ longN s = b from ⟨_, _, rfl, rfl⟩)
        have h0 : (∃ a b, (Value.int .i64 a = .int .i64 (manyN s)) ∧ (Value.int .i64 b = .int .i64 (longN s)) ∧ u2 = .int .i64 a ∧ u3 = .int .i64 b) := by
          unfold manyN longN
          rw [HSH.out, if_pos rfl, if_pos rfl]
          rcases hdis with ⟨h1, rfl, rfl⟩ | ⟨h1, h2, rfl, rfl⟩
          · have hs0 : s = [] := List.eq_nil_of_length_eq_zero (by have := HN.out; omega)
            subst hs0
            exact ⟨_, _, rfl, rfl, by rw [List.take_nil]; rfl, rfl⟩
          · exact ⟨_, _, rfl, rfl, rfl, rfl⟩
        obtain ⟨a, b, ea, eb, rfl, rfl⟩ := h0
        have HAB := Lib.hid (And.intro ea eb)
        have HC := Lib.hid hC
        clear hdis hj hlt hC ea eb HR
        go_wp2
        go_ret2
        exact ⟨by rw [← HAB.out.1, ← HAB.out.2]; rfl, HC.out⟩
end Go.Proofs.Ytjmlekdgipinfaa
