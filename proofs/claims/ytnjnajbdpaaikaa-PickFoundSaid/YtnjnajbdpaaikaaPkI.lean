/- pick: the first places of elements, as a map. -/
import Derived.Test.YtnjnajbdpaaikaaArZ
import Derived.Test.YtnjnajbdpaaikaaPkG
import Derived.Maps.Own
import Derived.Maps.OwnOps
import Derived.Maps.Views
namespace Go.Proofs.Ytnjnajbdpaaikaa
open Go.RowKit Go.Shelf Go.WideMaps Go.Maps

theorem long_keyed : Keyed Try.prog 2 := int_keyed Try.underlying2
theorem wf64 {n : Int} (h : In64 n) : (Lit.int .i64 n).wf = true := by
  unfold In64 at h
  simp [Lit.wf, IntKind.min, IntKind.max, IntKind.signed, IntKind.bits]
  omega
theorem keyI_of {x : Int} (h : In64 x) : keyOf Try.prog 2 (.int .i64 x) = some (.int .i64 x) := keyOf_int_mk Try.underlying2 (wf64 h)
theorem keyI_lit {x : Int} (h : In64 x) : WideAt.IsKeyLit (.int .i64 x) := long_keyed.key (keyI_of h)
theorem zero_i64 (w : World) : (zeroValue 2).run Try.prog w = .ok (.int .i64 0) w := by kernel_rfl
/-- The first place of an element, from 1 on; 0: it is not there. -/
def fpN (xs : List Int) (x : Int) : Int := if x ∈ xs then (xs.findIdx (· == x) : Int) + 1 else 0
theorem fpN_nil (x : Int) : fpN [] x = 0 := by simp [fpN]
theorem fpN_zero {xs : List Int} {x : Int} : fpN xs x = 0 ↔ x ∉ xs := by
  unfold fpN
  split
  · rename_i h
    constructor
    · intro e; omega
    · intro e; exact absurd h e
  · rename_i h
    exact ⟨fun _ => h, fun _ => rfl⟩
theorem fpN_bd (xs : List Int) (x : Int) : 0 ≤ fpN xs x ∧ fpN xs x ≤ xs.length := by
  unfold fpN
  split
  · rename_i h
    have := List.findIdx_lt_length_of_exists (p := (· == x)) ⟨x, h, by simp⟩
    omega
  · omega
theorem fpN_snoc (xs : List Int) (y x : Int) : fpN (xs ++ [y]) x = if x ∈ xs then fpN xs x else if x = y then (xs.length : Int) + 1 else 0 := by
  unfold fpN
  by_cases h : x ∈ xs
  · rw [if_pos (by simp [h]), if_pos h, if_pos h, List.findIdx_append, if_pos (List.findIdx_lt_length_of_exists ⟨x, h, by simp⟩)]
  · rw [if_neg h]
    have hn : ¬ xs.findIdx (· == x) < xs.length := fun hh => by
      have h2 := List.findIdx_getElem (w := hh)
      exact h (by rw [← eq_of_beq h2]; exact List.getElem_mem hh)
    by_cases e : x = y
    · subst e
      rw [if_pos (by simp), if_pos rfl, List.findIdx_append, if_neg hn]
      simp
    · rw [if_neg (by simp [h, e]), if_neg e]
/-- The map at mb tells the function f. -/
def PlAt (W : World) (mb : Nat) (f : Int → Int) : Prop := ∃ n D, W.ownsMap Try.prog 2 (plainElem (H := Unit) Try.prog 2) mb n D ∧ n ≤ 1000000 ∧ IsMap D ∧ ∀ x, In64 x → D.atKey (.int .i64 x) (.lit (.int .i64 0)) = .lit (.int .i64 (f x))
theorem ownsMap_fr {w w' : World} {mb n : Nat} {D : DataW Unit} (h : w.ownsMap Try.prog 2 (plainElem (H := Unit) Try.prog 2) mb n D) {S : Nat → Prop} (hC : Chg S w w') (hS : ¬ S mb) : w'.ownsMap Try.prog 2 (plainElem (H := Unit) Try.prog 2) mb n D := by
  have hlt := h.lt
  obtain ⟨es, clock, hb, F, hs, hD⟩ := h
  exact ⟨es, clock, (hC.block mb hlt hS).trans hb, F, hs, hD⟩
theorem PlAt.fr {w w' : World} {mb : Nat} {f : Int → Int} (h : PlAt w mb f) (hC : Chg (fun _ => False) w w') : PlAt w' mb f := by
  obtain ⟨n, D, h1, h2⟩ := h
  exact ⟨n, D, ownsMap_fr h1 hC id, h2⟩
set_option maxRecDepth 100000 in
theorem PlAt.look {W : World} {mb : Nat} {f : Int → Int} (h : PlAt W mb f) {x : Int} (hx : In64 x) : (Instr.lookup 79 (.map (some mb)) (.int .i64 x) false).run Try.prog W = .ok (.int .i64 (f x)) W := by
  obtain ⟨n, D, h1, _, _, h4⟩ := h
  obtain ⟨c, hr, hat, _⟩ := h1.lookup_int long_keyed Try.underlying79 Try.underlying2 (zero_i64 W) (keyI_of hx)
  have hat2 := (h4 x hx).symm.trans hat
  injection hat2 with hat2
  injection hat2 with _ hat2
  rw [hr, hat2]
def GavePl (w : World) (f : Int → Int) (e : Ending) (w' : World) : Prop := ∃ mb, e = .returned (.map (some mb)) ∧ PlAt w' mb f ∧ Chg (fun _ => False) w w'
def plF (A : Ar) (k : Int) (x : Int) : Int := if A.k = k then fpN A.e x else 0
theorem keyL_ne {x y : Int} (h : x ≠ y) : (Lit.int .i64 x) ≠ (Lit.int .i64 y) := fun e => by
  injection e with _ e
  exact h e
theorem plF_eq {A : Ar} {k : Int} (h : A.k = k) : plF A k = fpN A.e := funext fun _ => if_pos h
theorem plF_ne {A : Ar} {k : Int} (h : ¬ A.k = k) : plF A k = fun _ => 0 := funext fun _ => if_neg h
theorem fp_round {e : List Int} {j : Nat} (h : j < e.length) (y : Int) : fpN (e.take (j + 1)) y = if y ∈ e.take j then fpN (e.take j) y else if y = e[j] then (j : Int) + 1 else 0 := by
  rw [List.take_succ_eq_append_getElem h, fpN_snoc, List.length_take, Nat.min_eq_left (by omega)]
set_option maxRecDepth 100000 in
set_option maxHeartbeats 1000000 in
theorem places_any (u : Value) (A : Ar) (k : Int) (w : World) (hA : Ara w u A) (hl : A.e.length ≤ 1000000) (hI : ∀ x ∈ A.e, In64 x) : Calls Try.prog 50 #[u, .int .i64 k] w (GavePl w (plF A k)) := by
  obtain ⟨kk, s, e⟩ := A
  obtain ⟨vs, ve, rfl, hs, he⟩ := hA
  simp only at hs he hl hI ⊢
  obtain ⟨sa, cs, rfl, _⟩ := hs.form
  obtain ⟨ae, ce, rfl, _⟩ := he.form
  have hC0 := ((Chg.refl (fun _ => False) w).alloc (.cells #[.int .i64 kk, .slice sa s.length cs, .slice ae e.length ce] 25)).alloc (.map #[] 0)
  obtain ⟨y0, y1, y2⟩ := cell_two w (.int .i64 kk) (.slice sa s.length cs) (.slice ae e.length ce) 25
  replace y0 := alloc_cell y0 (.map #[] 0)
  replace y2 := alloc_cell y2 (.map #[] 0)
  have hm0 := World.ownsMap_made (w.alloc (.cells #[.int .i64 kk, .slice sa s.length cs, .slice ae e.length ce] 25)) Try.prog 2 (plainElem (H := Unit) Try.prog 2)
  rw [World.size_alloc] at hm0
  have hmm := @run_makeMap Try.prog
  have HE := Lib.hid he
  have HI := Lib.hid hI
  have HC := Lib.hid hC0
  have HM := Lib.hid hm0
  clear hs he hI hC0 hm0 y1
  by_cases hk : kk = k
  · subst hk
    have b0 : (kk != kk) = false := by simp
    have HF := Lib.hid (plF_eq (A := ⟨kk, s, e⟩) (k := kk) rfl)
    go_enter Try.func50, Try.ntmps50
    go_wp2
    generalize hW0 : (w.alloc (.cells #[.int .i64 kk, .slice sa s.length cs, .slice ae e.length ce] 25)).alloc (.map #[] 0) = W0 at *
    have HW0 := Lib.hid hW0
    clear hW0
    go_loopw [17] (fun i wr => ∃ j : Nat, j ≤ e.length ∧ i = .int .i64 j ∧ (∃ D, wr.ownsMap Try.prog 2 (plainElem (H := Unit) Try.prog 2) (w.heap.size + 1) j D ∧ IsMap D ∧ ∀ x, In64 x → D.atKey (.int .i64 x) (.lit (.int .i64 0)) = .lit (.int .i64 (fpN (e.take j) x))) ∧ Chg (fun _ => False) w wr) (fun i _ => e.length - (intOf i).toNat)
    case atStart => exact ⟨0, Nat.zero_le _, rfl, ⟨_, HM.out, isMap_empty, fun x _ => by rw [List.take_zero, fpN_nil]; rfl⟩, HC.out⟩
    case round =>
      obtain ⟨j, hj, rfl, ⟨D, hown, hmap, hD⟩, hC⟩ := hrel
      by_cases hlt : j < e.length
      · obtain ⟨bb, oo, cc, e1, hcell⟩ := (HE.out.fr hC).at hlt
        injection e1 with e1 e2 e3
        clear e2 e3
        subst e1
        have hr := fun y => fp_round hlt y
        have hx := HI.out e[j] (List.getElem_mem hlt)
        have hj1 : (j : Int) < (e.length : Int) := by omega
        have hkw : IntKind.i64.wrap ((j : Int) + 1) = (j : Int) + 1 := IntWalk.i64_in _ (by omega)
        obtain ⟨x, hxe⟩ : ∃ x, e[j] = x := ⟨_, rfl⟩
        rw [hxe] at hcell hx
        simp only [hxe] at hr
        have hkey := keyI_of hx
        have hlk : (Instr.lookup 79 (.map (some (w.heap.size + 1))) (.int .i64 x) false).run Try.prog wr = .ok (.int .i64 (fpN (e.take j) x)) wr := PlAt.look ⟨j, D, hown, by omega, hmap, hD⟩ hx
        obtain ⟨c, hc⟩ : ∃ c, fpN (e.take j) x = c := ⟨_, rfl⟩
        rw [hc] at hlk
        have HC2 := Lib.hid hC
        have HD := Lib.hid (And.intro hmap hD)
        have HR := Lib.hid (And.intro hc (And.intro hx hr))
        clear hmap hD hxe hr hx hC
        by_cases h0 : c = 0
        · subst h0
          have b1 : ((0 : Int) == 0) = true := rfl
          go_wp2_with (at_mapUpdate; refine wpList_mapUpdate_own _ rfl _ _ _ 79 rfl 2 2 long_keyed Try.underlying79 _ (w.heap.size + 1) j D rfl hown (by unfold maxLen; omega) _ _ (.int .i64 x) rfl rfl hkey _ [] (plainElem_int Try.underlying2 (wf64 (n := (j : Int) + 1) (by unfold In64; omega))) ?_; intro w1 hown1 hgrow1)
          have HO1 := Lib.hid hown1
          have HG1 := Lib.hid hgrow1
          clear hown1 hgrow1 hlk
          go_wp2
          go_roundw
          case rel =>
            refine ⟨j + 1, hlt, by go_num, ⟨_, HO1.out, HD.out.1.put _ _, fun y hy => ?_⟩, HC2.out.grown HG1.out (fun q hq => .inr (by cases hq; exact Nat.le_succ _))⟩
            have hni := fpN_zero.1 HR.out.1
            rw [HR.out.2.2]
            by_cases he2 : y = x
            · subst he2
              rw [if_neg hni, if_pos rfl]
              exact atKey_put_same HD.out.1 (keyI_lit hy) _ _
            · rw [if_neg he2]
              refine (atKey_put_other (keyL_ne he2) _ _).trans ?_
              rw [HD.out.2 y hy]
              split
              · rfl
              · rename_i hn
                rw [fpN_zero.2 hn]
          case measure => exact fit_meas j e.length hlt
        · have b1 : (c == 0) = false := beq_eq_false_iff_ne.2 h0
          have HO1 := Lib.hid hown
          have H0 := Lib.hid h0
          clear hown h0
          go_wp2
          go_roundw
          case rel =>
            refine ⟨j + 1, hlt, by go_num, ⟨_, HO1.out.mono (Nat.le_succ _), HD.out.1, fun y hy => ?_⟩, HC2.out⟩
            rw [HD.out.2 y hy, HR.out.2.2]
            split
            · rfl
            · rename_i hn
              rw [fpN_zero.2 hn]
              split
              · rename_i e3
                subst e3
                exact absurd ((fpN_zero.2 hn).symm.trans HR.out.1).symm H0.out
              · rfl
          case measure => exact fit_meas j e.length hlt
      · obtain rfl : j = e.length := by omega
        have HP := Lib.hid (show PlAt wr (w.heap.size + 1) (plF ⟨kk, s, e⟩ kk) from by
          rw [HF.out]
          refine ⟨_, D, hown, hl, hmap, fun x hx => ?_⟩
          rw [hD x hx, List.take_length])
        have HC2 := Lib.hid hC
        clear hown hmap hD hC
        go_wp2
        go_ret
        exact ⟨_, rfl, HP.out, HC2.out⟩
  · have b0 : (kk != k) = true := bne_iff_ne.2 hk
    have HF := Lib.hid (plF_ne (A := ⟨kk, s, e⟩) (k := k) hk)
    clear hk
    go_enter Try.func50, Try.ntmps50
    go_wp2
    go_ret
    refine ⟨_, rfl, ?_, HC.out⟩
    rw [HF.out]
    exact ⟨0, _, HM.out, by decide, isMap_empty, fun x _ => rfl⟩
/-- What index-of answers at an element. -/
def ioV (f : Int → Int) (n : Nat) (x : Int) : Int := if 0 < f x then f x else (n : Int) + 1
set_option maxHeartbeats 400000 in
theorem io1_any (mb b1 b2 b3 n cb na ca i : Nat) (ab aa : Option Addr) (f : Int → Int) (xs : List Int) (w : World) (h1 : w.cell? ⟨b1, 0, none⟩ = some (.map (some mb))) (h2 : w.cell? ⟨b2, 2, none⟩ = some (.slice ab n cb)) (hn : xs.length = n) (he : Ls w (.slice ab n cb) xs) (h3 : w.cell? ⟨b3, 2, none⟩ = some (.slice aa na ca))
    (hi : i < n) (hna : na ≤ 1000000) (hp : PlAt w mb f) (hI : ∀ x ∈ xs, In64 x) : Calls Try.prog 52 (#[.int .i64 (i : Int)] ++ #[.pointer (some ⟨b1, 0, none⟩), .pointer (some ⟨b2, 0, none⟩), .pointer (some ⟨b3, 0, none⟩)]) w (GaveI w (ioV f na (xs.getD i 0))) := by
  have hi2 : i < xs.length := by omega
  obtain ⟨bb, oo, cc, e1, hcell⟩ := he.at hi2
  rw [hn] at e1
  injection e1 with e1 e2 e3
  clear e2 e3
  subst e1
  have hx := hI xs[i] (List.getElem_mem hi2)
  have q1 : xs.getD i 0 = xs[i] := by simp [List.getD, hi2]
  rw [q1]
  generalize xs[i] = x at *
  have hlk := hp.look hx
  have hlk2 := (hp.fr ((Chg.refl _ w).drew)).look hx
  have i1 : (0 : Int) ≤ (i : Int) := by omega
  have i2 : (i : Int) < (n : Int) := by omega
  have hw : IntKind.i64.wrap ((na : Int) + 1) = (na : Int) + 1 := IntWalk.i64_in _ (by omega)
  unfold ioV
  generalize f x = c at *
  clear hp hI he hi hi2 hn q1 hx
  by_cases h0 : 0 < c
  · have d1 : decide (0 < c) = true := decide_eq_true h0
    rw [if_pos h0]
    clear h0
    go_enter Try.func52, Try.ntmps52
    go_wp2
    go_region
    go_wp2
    go_ret
    exact ⟨rfl, by first | exact (Chg.refl _ _).drewN _ | exact (Chg.refl _ _).drew⟩
  · have d1 : decide (0 < c) = false := decide_eq_false h0
    rw [if_neg h0]
    clear h0
    go_enter Try.func52, Try.ntmps52
    go_wp2
    go_region
    go_wp2
    go_ret
    exact ⟨rfl, by first | exact (Chg.refl _ _).drewN _ | exact (Chg.refl _ _).drew⟩
set_option maxHeartbeats 400000 in
theorem me1_any (mb b1 b2 n cb i : Nat) (ab : Option Addr) (f : Int → Int) (xs : List Int) (w : World) (h1 : w.cell? ⟨b1, 0, none⟩ = some (.map (some mb))) (h2 : w.cell? ⟨b2, 2, none⟩ = some (.slice ab n cb)) (hn : xs.length = n) (he : Ls w (.slice ab n cb) xs)
    (hi : i < n) (hp : PlAt w mb f) (hI : ∀ x ∈ xs, In64 x) : Calls Try.prog 53 (#[.int .i64 (i : Int)] ++ #[.pointer (some ⟨b1, 0, none⟩), .pointer (some ⟨b2, 0, none⟩)]) w (GaveI w (min 1 (f (xs.getD i 0)))) := by
  have hi2 : i < xs.length := by omega
  obtain ⟨bb, oo, cc, e1, hcell⟩ := he.at hi2
  rw [hn] at e1
  injection e1 with e1 e2 e3
  clear e2 e3
  subst e1
  have hx := hI xs[i] (List.getElem_mem hi2)
  have q1 : xs.getD i 0 = xs[i] := by simp [List.getD, hi2]
  rw [q1]
  generalize xs[i] = x at *
  have hlk := hp.look hx
  have hlk2 := (hp.fr ((Chg.refl _ w).drew)).look hx
  have i1 : (0 : Int) ≤ (i : Int) := by omega
  have i2 : (i : Int) < (n : Int) := by omega
  generalize f x = c at *
  clear hp hI he hi hi2 hn q1 hx
  by_cases h0 : c < 1
  · obtain ⟨m, hm⟩ : ∃ m, min 1 c = m := ⟨_, rfl⟩
    have HM := Lib.hid (show m = c by omega)
    rw [hm]
    clear hm
    go_enter Try.func53, Try.ntmps53
    go_wp2
    go_region
    go_wp2
    go_ret
    exact ⟨by rw [HM.out]; rfl, by first | exact (Chg.refl _ _).drewN _ | exact (Chg.refl _ _).drew⟩
  · obtain ⟨m, hm⟩ : ∃ m, min 1 c = m := ⟨_, rfl⟩
    have HM := Lib.hid (show m = 1 by omega)
    rw [hm]
    clear hm
    go_enter Try.func53, Try.ntmps53
    go_wp2
    go_region
    go_wp2
    go_ret
    exact ⟨by rw [HM.out]; rfl, by first | exact (Chg.refl _ _).drewN _ | exact (Chg.refl _ _).drew⟩
end Go.Proofs.Ytnjnajbdpaaikaa
