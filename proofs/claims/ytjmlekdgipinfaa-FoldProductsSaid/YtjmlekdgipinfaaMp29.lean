/- The document's numbers: quotients, bit by bit. -/
import Derived.Test.YtjmlekdgipinfaaMp28
import Derived.Deep.Cut
namespace Go.Proofs.Ytjmlekdgipinfaa
open Go.RowKit Go.Shelf

/-- A number in box g. -/
structure BoxB (w : World) (g : Nat) (b : Bool) (m : Nat) (ao : Option Addr) (c : Nat) : Prop where
  c0 : w.cell? ⟨g, 0, none⟩ = some (.bool b)
  c1 : w.cell? ⟨g, 1, none⟩ = some (.slice ao (dg m).length c)
  f0 : w.frozen? ⟨g, 0, none⟩ = false
  f1 : w.frozen? ⟨g, 1, none⟩ = false
  lu : Lu w (.slice ao (dg m).length c) (dg m)
theorem BoxB.new {w : World} {b : Bool} {m : Nat} {ao : Option Addr} {c : Nat} (h : Lu w (.slice ao (dg m).length c) (dg m)) (t : TypeId) : BoxB (w.alloc (.cells #[.bool b, .slice ao (dg m).length c] t)) w.heap.size b m ao c :=
  ⟨new_cell w _ _ rfl, new_cell w _ _ rfl, new_frozen w _ _ _, new_frozen w _ _ _, h.fr ((Chg.refl _ w).alloc _)⟩
theorem BoxB.fr {w w' : World} {g : Nat} {b : Bool} {m : Nat} {ao : Option Addr} {c : Nat} (h : BoxB w g b m ao c) (hC : Chg (fun _ => False) w w') : BoxB w' g b m ao c :=
  ⟨hC.cell h.c0 id, hC.cell h.c1 id, hC.frozen h.c0 h.f0 id, hC.frozen h.c1 h.f1 id, h.lu.fr hC⟩
theorem BoxB.big {w : World} {g : Nat} {b : Bool} {m : Nat} {ao : Option Addr} {c : Nat} (h : BoxB w g b m ao c) : BigV w (.agg #[.bool b, .slice ao (dg m).length c]) b m := ⟨_, rfl, h.lu⟩
/-- A new number is put into it. -/
theorem BoxB.put {w : World} {g : Nat} {b b2 : Bool} {m m2 : Nat} {ao a2 : Option Addr} {c c2 : Nat} (h : BoxB w g b m ao c) (h2 : Lu w (.slice a2 (dg m2).length c2) (dg m2)) :
    BoxB ((w.setCell ⟨g, 0, none⟩ (.bool b2)).setCell ⟨g, 1, none⟩ (.slice a2 (dg m2).length c2)) g b2 m2 a2 c2 := by
  obtain ⟨g0, g1⟩ := b2_set (.bool b2) (.slice a2 (dg m2).length c2) h.c0 h.c1
  exact ⟨g0, g1, by rw [World.frozen?_setCell, World.frozen?_setCell]; exact h.f0, by rw [World.frozen?_setCell, World.frozen?_setCell]; exact h.f1, lu_set2 h2 h.c0 h.c1 _ _⟩
/-- Into another one. -/
theorem BoxB.other {w : World} {g k : Nat} {b b1 : Bool} {m m1 : Nat} {ao a1 : Option Addr} {c c1 : Nat} (h : BoxB w g b m ao c) (h1 : BoxB w k b1 m1 a1 c1) (hne : g ≠ k) (x y : Value) : BoxB ((w.setCell ⟨k, 0, none⟩ x).setCell ⟨k, 1, none⟩ y) g b m ao c := by
  refine ⟨?_, ?_, by rw [World.frozen?_setCell, World.frozen?_setCell]; exact h.f0, by rw [World.frozen?_setCell, World.frozen?_setCell]; exact h.f1, lu_set2 h.lu h1.c0 h1.c1 _ _⟩
  · rw [World.cell?_setCell_other _ _ _ _ (fun e => hne (congrArg Addr.block e).symm), World.cell?_setCell_other _ _ _ _ (fun e => hne (congrArg Addr.block e).symm)]; exact h.c0
  · rw [World.cell?_setCell_other _ _ _ _ (fun e => hne (congrArg Addr.block e).symm), World.cell?_setCell_other _ _ _ _ (fun e => hne (congrArg Addr.block e).symm)]; exact h.c1
theorem lu_other {w : World} {k : Nat} {b1 : Bool} {m1 : Nat} {a1 : Option Addr} {c1 : Nat} {v : Value} {ds : List Nat} (h : Lu w v ds) (h1 : BoxB w k b1 m1 a1 c1) (x y : Value) : Lu ((w.setCell ⟨k, 0, none⟩ x).setCell ⟨k, 1, none⟩ y) v ds := lu_set2 h h1.c0 h1.c1 x y
theorem dg_small {m : Nat} (h : m < pw 8) : (dg m).length ≤ 10000 := Nat.le_trans (dg_len h) (by decide)
theorem pw8 : pw 8 = 340282366920938463463374607431768211456 := by decide
/-- What the loop keeps: both numbers, the answer's box, two, and quotient and rest under way. -/
structure Six (w wr : World) (gt : Nat) (a b : Bool) (m n q r : Nat) (ao : Option Addr) (ac : Nat) (bo : Option Addr) (bc : Nat) (ta : Option Addr) (tc : Nat) (qa : Option Addr) (qc : Nat) (ra : Option Addr) (rc : Nat) : Prop where
  x : BoxB wr w.heap.size a m ao ac
  y : BoxB wr (w.heap.size + 1) b n bo bc
  z : BoxB wr (w.heap.size + 2) false 0 none 0
  q : BoxB wr (w.heap.size + 3) false q qa qc
  r : BoxB wr (w.heap.size + 4) false r ra rc
  t : BoxB wr gt false 2 ta tc
  lt : w.heap.size + 5 ≤ gt
  ch : Chg (fun _ => False) w wr
section
variable {w wr w' : World} {gt : Nat} {a b : Bool} {m n q r : Nat} {ao : Option Addr} {ac : Nat} {bo : Option Addr} {bc : Nat} {ta : Option Addr} {tc : Nat} {qa : Option Addr} {qc : Nat} {ra : Option Addr} {rc : Nat}
theorem Six.fr (h : Six w wr gt a b m n q r ao ac bo bc ta tc qa qc ra rc) (hC : Chg (fun _ => False) wr w') : Six w w' gt a b m n q r ao ac bo bc ta tc qa qc ra rc :=
  ⟨h.x.fr hC, h.y.fr hC, h.z.fr hC, h.q.fr hC, h.r.fr hC, h.t.fr hC, h.lt, h.ch.tr hC⟩
theorem Six.putQ (h : Six w wr gt a b m n q r ao ac bo bc ta tc qa qc ra rc) {q2 : Nat} {a2 : Option Addr} {c2 : Nat} (h2 : Lu wr (.slice a2 (dg q2).length c2) (dg q2)) :
    Six w ((wr.setCell ⟨w.heap.size + 3, 0, none⟩ (.bool false)).setCell ⟨w.heap.size + 3, 1, none⟩ (.slice a2 (dg q2).length c2)) gt a b m n q2 r ao ac bo bc ta tc a2 c2 ra rc := by
  have := h.lt
  exact ⟨h.x.other h.q (by omega) _ _, h.y.other h.q (by omega) _ _, h.z.other h.q (by omega) _ _, h.q.put h2, h.r.other h.q (by omega) _ _, h.t.other h.q (by omega) _ _, h.lt, (h.ch.setCell (p := ⟨w.heap.size + 3, 0, none⟩) (.inr (by show _ ≤ w.heap.size + 3; omega)) _).setCell (p := ⟨w.heap.size + 3, 1, none⟩) (.inr (by show _ ≤ w.heap.size + 3; omega)) _⟩
theorem Six.putR (h : Six w wr gt a b m n q r ao ac bo bc ta tc qa qc ra rc) {r2 : Nat} {a2 : Option Addr} {c2 : Nat} (h2 : Lu wr (.slice a2 (dg r2).length c2) (dg r2)) :
    Six w ((wr.setCell ⟨w.heap.size + 4, 0, none⟩ (.bool false)).setCell ⟨w.heap.size + 4, 1, none⟩ (.slice a2 (dg r2).length c2)) gt a b m n q r2 ao ac bo bc ta tc qa qc a2 c2 := by
  have := h.lt
  exact ⟨h.x.other h.r (by omega) _ _, h.y.other h.r (by omega) _ _, h.z.other h.r (by omega) _ _, h.q.other h.r (by omega) _ _, h.r.put h2, h.t.other h.r (by omega) _ _, h.lt, (h.ch.setCell (p := ⟨w.heap.size + 4, 0, none⟩) (.inr (by show _ ≤ w.heap.size + 4; omega)) _).setCell (p := ⟨w.heap.size + 4, 1, none⟩) (.inr (by show _ ≤ w.heap.size + 4; omega)) _⟩
end
def quoZ (a b : Bool) (m n : Nat) : Int := if a = b then ((m / n : Nat) : Int) else -((m / n + (if 0 < m % n then 1 else 0) : Nat) : Int)
def GaveQu (w : World) (a b : Bool) (m n : Nat) (e : Ending) (w' : World) : Prop := ∃ p : Bool × Nat, sgn p.1 p.2 = quoZ a b m n ∧ p.2 ≤ m + 1 ∧ GaveBg w p e w'
set_option maxRecDepth 100000 in
set_option maxHeartbeats 8000000 in
theorem r12quot_any (u v : Value) (a b : Bool) (m n : Nat) (w : World) (hU : BigV w u a m) (hV : BigV w v b n) (hm : m ≤ 9223372036854775808) (hn : n ≤ 9223372036854775808) (hn0 : 0 < n) :
    Calls Try.prog 107 #[u, v] w (GaveQu w a b m n) := by
  obtain ⟨us, rfl, hU⟩ := hU
  obtain ⟨vs, rfl, hV⟩ := hV
  obtain ⟨ao, ac, rfl⟩ := hU.form
  obtain ⟨bo, bc, rfl⟩ := hV.form
  have h2 : ∀ w, Calls Try.prog 102 #[.int .i64 2] w (GaveBg w (false, 2)) := r12of_any 2 (by unfold In; decide)
  unfold GaveBg at h2
  obtain ⟨v1, hv1⟩ : ∃ X, w.alloc (.cells #[.bool a, .slice ao (dg m).length ac] 124) = X := ⟨_, rfl⟩
  obtain ⟨v2, hv2⟩ : ∃ X, v1.alloc (.cells #[.bool b, .slice bo (dg n).length bc] 124) = X := ⟨_, rfl⟩
  obtain ⟨v3, hv3⟩ : ∃ X, v2.alloc (.cells #[.bool false, .slice none 0 0] 124) = X := ⟨_, rfl⟩
  obtain ⟨v4, hv4⟩ : ∃ X, v3.alloc (.cells #[.bool false, .slice none 0 0] 124) = X := ⟨_, rfl⟩
  obtain ⟨v5, hv5⟩ : ∃ X, v4.alloc (.cells #[.bool false, .slice none 0 0] 124) = X := ⟨_, rfl⟩
  have s1 : v1.heap.size = w.heap.size + 1 := by rw [← hv1]; simp
  have s2 : v2.heap.size = w.heap.size + 2 := by rw [← hv2]; simp [s1]
  have s3 : v3.heap.size = w.heap.size + 3 := by rw [← hv3]; simp [s2]
  have s4 : v4.heap.size = w.heap.size + 4 := by rw [← hv4]; simp [s3]
  have k1 : Chg (fun _ => False) w v1 := by rw [← hv1]; exact (Chg.refl _ _).alloc _
  have k2 : Chg (fun _ => False) v1 v2 := by rw [← hv2]; exact (Chg.refl _ _).alloc _
  have k3 : Chg (fun _ => False) v2 v3 := by rw [← hv3]; exact (Chg.refl _ _).alloc _
  have k4 : Chg (fun _ => False) v3 v4 := by rw [← hv4]; exact (Chg.refl _ _).alloc _
  have k5 : Chg (fun _ => False) v4 v5 := by rw [← hv5]; exact (Chg.refl _ _).alloc _
  have hX := BoxB.new (b := a) hU 124
  rw [hv1] at hX
  have hY := BoxB.new (b := b) (hV.fr k1) 124
  rw [hv2, s1] at hY
  have lu0 : ∀ w : World, Lu w (.slice none 0 0) (dg 0) := fun w => ⟨⟨none, 0, rfl, Nat.le_refl _, Nat.zero_le _, fun _ => rfl⟩, fun j u hu => by simp [dg, dgF] at hu⟩
  have hR4 := BoxB.new (m := 0) (b := false) (lu0 v2) 124
  have hQ5 := BoxB.new (m := 0) (b := false) (lu0 v3) 124
  have hR6 := BoxB.new (m := 0) (b := false) (lu0 v4) 124
  rw [show (dg 0).length = 0 from rfl, hv3, s2] at hR4
  rw [show (dg 0).length = 0 from rfl, hv4, s3] at hQ5
  rw [show (dg 0).length = 0 from rfl, hv5, s4] at hR6
  have HX := Lib.hid (hX.fr (((k2.tr k3).tr k4).tr k5))
  have HY := Lib.hid (hY.fr ((k3.tr k4).tr k5))
  have HR4 := Lib.hid (hR4.fr (k4.tr k5))
  have HQ5 := Lib.hid (hQ5.fr k5)
  have HR6 := Lib.hid hR6
  have HC5 := Lib.hid ((((k1.tr k2).tr k3).tr k4).tr k5)
  have HB := Lib.hid (And.intro hm (And.intro hn hn0))
  have HW := Lib.hid (And.intro hv1 (And.intro hv2 (And.intro hv3 (And.intro hv4 hv5))))
  clear hU hV hv1 hv2 hv3 hv4 hv5 s1 s2 s3 s4 k1 k2 k3 k4 k5 hX hY hR4 hQ5 hR6 lu0 hm hn hn0
  go_enter Try.func107, Try.ntmps107
  go_wp2_with fail
  rw [HW.out.1, HW.out.2.1, HW.out.2.2.1, HW.out.2.2.2.1, HW.out.2.2.2.2]
  refine (h2 _).mono ?_
  clear h2 HW
  rintro e9 w6 ⟨vt, rfl, hvt, hC6⟩
  obtain ⟨vs, rfl, hvt⟩ := hvt
  obtain ⟨ta, tc, rfl⟩ := hvt.form
  have hSix : Six w (w6.alloc (.cells #[.bool false, .slice ta (dg 2).length tc] 124)) w6.heap.size a b m n 0 0 ao ac bo bc ta tc none 0 none 0 := by
    have hA := hC6.tr ((Chg.refl (fun _ => False) w6).alloc (.cells #[.bool false, .slice ta (dg 2).length tc] 124))
    exact ⟨HX.out.fr hA, HY.out.fr hA, HR4.out.fr hA, HQ5.out.fr hA, HR6.out.fr hA, BoxB.new hvt _, by have h1 := hC6.size; have h2 := cell_lt HR6.out.c0; exact Nat.le_trans (Nat.succ_le_of_lt h2) h1, HC5.out.tr hA⟩
  obtain ⟨gt, hgt⟩ : ∃ g, w6.heap.size = g := ⟨_, rfl⟩
  obtain ⟨w7, hw7⟩ : ∃ X, w6.alloc (.cells #[.bool false, .slice ta (dg 2).length tc] 124) = X := ⟨_, rfl⟩
  rw [hw7, hgt] at hSix
  have HW7 := Lib.hid (And.intro hw7 hgt)
  have HSix := Lib.hid hSix
  clear hSix hw7 hgt HX HY HR4 HQ5 HR6 HC5 hvt hC6
  go_wp2
  rw [HW7.out.1, HW7.out.2]
  rw [show w.heap.size + 1 + 1 + 1 + 1 = w.heap.size + 4 from rfl, show w.heap.size + 1 + 1 + 1 = w.heap.size + 3 from rfl, show w.heap.size + 1 + 1 = w.heap.size + 2 from rfl]
  clear HW7
  have hz65 : m / 2 ^ 65 = 0 := Nat.div_eq_of_lt (by have := HB.out.1; have : (2 : Nat) ^ 65 = 36893488147419103232 := by decide
                                                     omega)
  go_loopw [8] (fun v8 wr => ∃ (j : Nat) (i : Int), i = (j : Int) - 1 ∧ j ≤ 65 ∧ v8 = .int .i64 i ∧ ∃ qa qc ra rc, Six w wr gt a b m n (m / 2 ^ j / n) (m / 2 ^ j % n) ao ac bo bc ta tc qa qc ra rc) (fun v8 _ => (intOf v8 + 1).toNat)
  case atStart => exact ⟨65, 64, rfl, Nat.le_refl _, rfl, none, 0, none, 0, by rw [hz65, Nat.zero_div, Nat.zero_mod]; exact HSix.out⟩
  case round =>
    clear hz65
    obtain ⟨j, i, hi, hj, rfl, qa, qc, ra, rc, hS⟩ := hrel
    have HS := Lib.hid hS
    clear hS
    by_cases h0 : j = 0
    · subst h0
      obtain rfl : i = -1 := by omega
      rw [Nat.pow_zero, Nat.div_one] at HS
      clear hi hj
      have x0 := HS.out.x.c0
      have y0 := HS.out.y.c0
      have z0 := HS.out.z.c0
      have z1 := HS.out.z.c1
      have zf0 := HS.out.z.f0
      have zf1 := HS.out.z.f1
      have q0 := HS.out.q.c0
      have q1 := HS.out.q.c1
      have r1 := HS.out.r.c1
      have hqm : m / n ≤ m := Nat.div_le_self _ _
      by_cases hab : a = b
      · have e1 : (a == b) = true := beq_iff_eq.2 hab
        have HR := Lib.hid (show sgn false (m / n) = quoZ a b m n by unfold quoZ; rw [if_pos hab]; rfl)
        have HQM := Lib.hid hqm
        obtain ⟨g0, g1⟩ := b2_set (.bool false) (.slice qa (dg (m / n)).length qc) z0 z1
        clear hab hqm
        go_wp2
        simp [bodyPost, results, Try.results107, go_sem, g0, g1]
        exact ⟨(false, m / n), HR.out, by have := HQM.out; show m / n ≤ m + 1; omega, _, rfl, big_leave (b := false) HS.out.ch (by omega) z0 z1 HS.out.q.lu (.inl rfl)⟩
      · have e1 : (a == b) = false := beq_eq_false_iff_ne.2 hab
        have HQM := Lib.hid hqm
        obtain ⟨lr, hlr⟩ : ∃ x, (dg (m % n)).length = x := ⟨_, rfl⟩
        rw [hlr] at r1
        by_cases hr0 : 0 < m % n
        · have hl0 : 0 < lr := by
            rw [← hlr]
            refine List.length_pos_iff.2 (fun e => ?_)
            have := vl_dg (m % n)
            rw [e] at this
            simp only [vl] at this
            omega
          have d1 : decide (0 < lr) = true := decide_eq_true hl0
          have d2 : decide ((0 : Int) < (lr : Int)) = true := decide_eq_true (by omega)
          have HR := Lib.hid (show sgn true (m / n + 1) = quoZ a b m n by unfold quoZ; rw [if_neg hab, if_pos hr0]; rfl)
          have H1 := Lib.hid (show ∀ w', Calls Try.prog 102 #[.int .i64 1] w' (GaveBg w' (false, 1)) from fun w' => r12of_any 1 (by unfold In; decide) w')
          have H2 := Lib.hid (show ∀ w' v, Chg (fun _ => False) wr w' → BigV w' v false 1 → Calls Try.prog 104 #[.agg #[.bool false, .slice qa (dg (m / n)).length qc], v] w' (GaveBg w' (false, m / n + 1)) from fun w' v h hv => r12add_any _ _ false false (m / n) 1 w' ((HS.out.q.fr h).big) hv (Nat.le_trans (dg_small (by rw [pw8]; have := HB.out; have := HQM.out; omega)) (by decide)) (by decide))
          unfold GaveBg at H1 H2
          have f0 := HS.out.q.f0
          have f1 := HS.out.q.f1
          clear hab hqm hr0 hl0 hlr
          go_wp2
          clear z0 z1 zf0 zf1 x0 y0 r1
          go_region_with (first
            | (go_at_call 102; (with_reducible refine (H1.out _).mono ?_); rintro e9 wh ⟨vh, rfl, hvh, hCh⟩; (have hCh2 := (Chg.refl (fun _ => False) wr).drew.tr hCh); (have hvh2 := hvh); (obtain ⟨vh1, rfl, hlh⟩ := hvh); (obtain ⟨ah, ch, rfl⟩ := hlh.form); (have q0' := hCh2.cell q0 id); (have q1' := hCh2.cell q1 id))
            | (go_at_call 104; (with_reducible refine (H2.out _ _ hCh2 hvh2).mono ?_); rintro e9 wi ⟨vi, rfl, hvi, hCi⟩; (have hCi2 := hCh2.tr hCi); (obtain ⟨vi1, rfl, hli⟩ := hvi); (obtain ⟨ai, ci, rfl⟩ := hli.form); (have z0' := hCi2.cell q0 id); (have z1' := hCi2.cell q1 id); (have g0' := hCi2.frozen q0 f0 id); (have g1' := hCi2.frozen q1 f1 id)))
          all_goals
            have hP := (HS.out.fr hCi2).putQ hli
            obtain ⟨wj, hwj⟩ : ∃ X, (wi.setCell ⟨w.heap.size + 3, 0, none⟩ (.bool false)).setCell ⟨w.heap.size + 3, 1, none⟩ (.slice ai (dg (m / n + 1)).length ci) = X := ⟨_, rfl⟩
            rw [hwj] at hP ⊢
            clear hwj hCh hCh2 hvh2 hlh hCi hCi2 hli q0 q1 f0 f1 q0' q1' z0' z1' g0' g1' H1 H2
            have HP := Lib.hid hP
            clear hP
            have q1 := HP.out.q.c1
            have z0 := HP.out.z.c0
            have z1 := HP.out.z.c1
            have zf0 := HP.out.z.f0
            have zf1 := HP.out.z.f1
            obtain ⟨g0, g1⟩ := b2_set (.bool true) (.slice ai (dg (m / n + 1)).length ci) z0 z1
            go_wp2
            simp [bodyPost, results, Try.results107, go_sem, g0, g1]
            exact ⟨(true, m / n + 1), HR.out, by have := HQM.out; show m / n + 1 ≤ m + 1; omega, _, rfl, big_leave (b := true) HP.out.ch (by omega) z0 z1 HP.out.q.lu (.inl rfl)⟩
        · have hl0 : lr = 0 := by rw [← hlr, show m % n = 0 by omega]; rfl
          have d1 : decide (0 < lr) = false := decide_eq_false (by omega)
          have d2 : decide ((0 : Int) < (lr : Int)) = false := decide_eq_false (by omega)
          have HR := Lib.hid (show sgn true (m / n) = quoZ a b m n by unfold quoZ; rw [if_neg hab, if_neg hr0]; rfl)
          obtain ⟨g0, g1⟩ := b2_set (.bool true) (.slice qa (dg (m / n)).length qc) z0 z1
          clear hab hqm hr0 hl0 hlr
          go_wp2
          simp [bodyPost, results, Try.results107, go_sem, g0, g1]
          exact ⟨(true, m / n), HR.out, by have := HQM.out; show m / n ≤ m + 1; omega, _, rfl, big_leave (b := true) HS.out.ch (by omega) z0 z1 HS.out.q.lu (.inl rfl)⟩
    · obtain ⟨k, rfl⟩ : ∃ k, j = k + 1 := ⟨j - 1, by omega⟩
      obtain rfl : i = (k : Int) := by omega
      have HK := Lib.hid (show k ≤ 64 by omega)
      have HST := Lib.hid (bit_step (X := m) HB.out.2.2 k)
      obtain ⟨Q, hQ⟩ : ∃ x, m / 2 ^ (k + 1) / n = x := ⟨_, rfl⟩
      obtain ⟨R, hR⟩ : ∃ x, m / 2 ^ (k + 1) % n = x := ⟨_, rfl⟩
      have hRn : R < n := by rw [← hR]; exact Nat.mod_lt _ HB.out.2.2
      have hQm : Q ≤ m := by rw [← hQ]; exact Nat.le_trans (Nat.div_le_self _ _) (Nat.div_le_self _ _)
      rw [hQ, hR] at HS HST
      have HRB := Lib.hid (show R ≤ 9223372036854775808 ∧ Q ≤ 9223372036854775808 by have := HB.out; omega)
      clear h0 hi hj hQ hR hRn hQm
      have hp8 := pw8
      have hml : Calls Try.prog 106 #[.agg #[.bool false, .slice ra (dg R).length rc], .agg #[.bool false, .slice ta (dg 2).length tc]] wr (GaveBg wr (false, R * 2)) := r12mul_any _ _ false false R 2 wr HS.out.r.big HS.out.t.big (dg_small (by have := HRB.out; omega)) (dg_small (by omega))
      unfold GaveBg at hml
      have r0 := HS.out.r.c0
      have r1 := HS.out.r.c1
      have t0 := HS.out.t.c0
      have t1 := HS.out.t.c1
      clear hp8
      go_wp2_with fail
      refine hml.mono ?_
      clear hml r0 r1 t0 t1
      rintro e9 wa ⟨va, rfl, hva, hCa⟩
      obtain ⟨vs, rfl, hvl⟩ := hva
      obtain ⟨a2, c2, rfl⟩ := hvl.form
      replace HS := Lib.hid (HS.out.fr hCa)
      have r0 := HS.out.r.c0
      have r1 := HS.out.r.c1
      have f0 := HS.out.r.f0
      have f1 := HS.out.r.f1
      have hP := HS.out.putR hvl
      clear hvl hCa
      go_upto_region 8 with (fail)
      obtain ⟨wb, hwb⟩ : ∃ X, (wa.setCell ⟨w.heap.size + 4, 0, none⟩ (.bool false)).setCell ⟨w.heap.size + 4, 1, none⟩ (.slice a2 (dg (R * 2)).length c2) = X := ⟨_, rfl⟩
      rw [hwb] at hP ⊢
      clear r0 r1 f0 f1 hwb HS
      obtain ⟨d, hd⟩ : ∃ d, k / 16 = d := ⟨_, rfl⟩
      obtain ⟨e, he⟩ : ∃ e, k % 16 = e := ⟨_, rfl⟩
      have u1 : Int.tdiv (k : Int) 16 = (d : Int) := by rw [Int.tdiv_eq_ediv_of_nonneg (by omega)]; omega
      have u2 : IntKind.i64.wrap (d : Int) = (d : Int) := IntWalk.i64_in _ (by have := HK.out; omega)
      have hbit := bit_get m k
      rw [hd, he] at hbit
      have x1 := hP.x.c1
      obtain ⟨lx, hlx⟩ : ∃ x, (dg m).length = x := ⟨_, rfl⟩
      rw [hlx] at x1
      by_cases hdl : d < lx
      · have d1 : decide (d < lx) = true := decide_eq_true hdl
        have hdl2 : d < (dg m).length := by rw [hlx]; exact hdl
        obtain ⟨b1, o1, e1, hx⟩ := hP.x.lu.at hdl2
        subst e1
        rw [List.getD_eq_getElem?_getD, List.getElem?_eq_getElem hdl2, Option.getD_some] at hbit
        have hD := dg_dig m _ (List.getElem_mem hdl2)
        obtain ⟨D, hDD⟩ : ∃ D, (dg m)[d] = D := ⟨_, rfl⟩
        rw [hDD] at hbit hx hD
        have i1 : (0 : Int) ≤ (d : Int) := Int.natCast_nonneg d
        have i2 : (d : Int) < (lx : Int) := Int.ofNat_lt.2 hdl
        have u3 : Int.tmod (k : Int) 16 = (e : Int) := by rw [Int.tmod_eq_emod_of_nonneg (by omega)]; omega
        have u4 : IntKind.i64.wrap (e : Int) = (e : Int) := IntWalk.i64_in _ (by omega)
        have HP := Lib.hid hP
        have HBIT := Lib.hid hbit
        have HD := Lib.hid hD
        have HE := Lib.hid (show e < 16 by omega)
        clear hbit hdl hdl2 hlx hd he hP hD hDD
        go_wp2
        clear x1 hx i1 i2 d1
        go_loopw [10, 11] (fun v10 v11 wr => ∃ t : Nat, t ≤ e ∧ v11 = .int .i64 t ∧ v10 = .int .u64 (D / 2 ^ t : Nat) ∧ wr = wb) (fun _ v11 _ => e - (intOf v11).toNat)
        case atStart => exact ⟨0, Nat.zero_le _, rfl, by simp, rfl⟩
        case round =>
          obtain ⟨t, ht, rfl, rfl, rfl⟩ := hrel
          obtain ⟨x, hx⟩ : ∃ x, D / 2 ^ t = x := ⟨_, rfl⟩
          have hxd : x ≤ D := by rw [← hx]; exact Nat.div_le_self _ _
          rw [hx]
          by_cases hte : t < e
          · have d1 : decide (t < e) = true := decide_eq_true hte
            have HTE := Lib.hid hte
            have v1 : Int.tdiv (x : Int) 2 = ((x / 2 : Nat) : Int) := by rw [Int.tdiv_eq_ediv_of_nonneg (by omega)]; omega
            have v2 : IntKind.u64.wrap ((x / 2 : Nat) : Int) = ((x / 2 : Nat) : Int) := IntWalk.u64_in _ (by have := HD.out; omega)
            have kw : IntKind.i64.wrap ((t : Int) + 1) = (t : Int) + 1 := IntWalk.i64_in _ (by have := HE.out; omega)
            have HX2 := Lib.hid (show D / 2 ^ (t + 1) = x / 2 by rw [← hx, Nat.div_div_eq_div_mul, ← Nat.pow_succ])
            generalize x / 2 = x2 at *
            clear hx hxd hte ht
            go_wp2
            go_roundw
            case rel => exact ⟨t + 1, HTE.out, congrArg (Value.int IntKind.i64) (Int.natCast_succ t).symm, by rw [HX2.out], by first | rfl | trivial⟩
            case measure => exact fit_meas t e HTE.out
          · obtain rfl : t = e := by omega
            have d1 : decide (t < t) = false := decide_eq_false hte
            obtain ⟨bb, hbb⟩ : ∃ bb, x % 2 = bb := ⟨_, rfl⟩
            have hb2 : m / 2 ^ k % 2 = bb := by rw [← HBIT.out, hx]; exact hbb
            have v1 : Int.tmod (x : Int) 2 = (bb : Int) := by rw [Int.tmod_eq_emod_of_nonneg (by omega)]; omega
            have v2 : IntKind.u64.wrap (bb : Int) = (bb : Int) := IntWalk.u64_in _ (by omega)
            have v3 : IntKind.i64.wrap (bb : Int) = (bb : Int) := IntWalk.i64_in _ (by omega)
            have HBB := Lib.hid (show bb ≤ 1 by omega)
            rw [hb2] at HST
            have HR3 := Lib.hid (show (R * 2 + bb < n → m / 2 ^ k % n = R * 2 + bb ∧ m / 2 ^ k / n = 2 * Q) ∧ (n ≤ R * 2 + bb → m / 2 ^ k % n = R * 2 + bb - n ∧ m / 2 ^ k / n = 2 * Q + 1) ∧ R * 2 + bb < 2 * n from by
              have h := HST.out
              simp only [Nat.mul_comm 2 R] at h
              exact h)
            have H1 := Lib.hid (show ∀ w', Calls Try.prog 102 #[.int .i64 (bb : Int)] w' (GaveBg w' (false, bb)) from fun w' => by
              have h := r12of_any (bb : Int) (by have := HBB.out; unfold In; omega) w'
              rw [decide_eq_false (by omega), Int.natAbs_natCast] at h
              exact h)
            have H2 := Lib.hid (show ∀ w' v, Chg (fun _ => False) wr w' → BigV w' v false bb → Calls Try.prog 104 #[.agg #[.bool false, .slice a2 (dg (R * 2)).length c2], v] w' (GaveBg w' (false, R * 2 + bb)) from fun w' v h hv => r12add_any _ _ false false (R * 2) bb w' ((HP.out.r.fr h).big) hv (Nat.le_trans (dg_small (by rw [pw8]; have := HRB.out; omega)) (by decide)) (Nat.le_trans (dg_small (by rw [pw8]; have := HBB.out; omega)) (by decide)))
            unfold GaveBg at H1 H2
            have q0 := HP.out.r.c0
            have q1 := HP.out.r.c1
            have f0 := HP.out.r.f0
            have f1 := HP.out.r.f1
            clear hx hxd hte ht hbb hb2
            go_wp2
            go_region_with (first
              | (go_at_call 102; (with_reducible refine (H1.out _).mono ?_); rintro e9 wh ⟨vh, rfl, hvh, hCh⟩; (have hCh2 := (Chg.refl (fun _ => False) wr).drew.tr hCh); (have hvh2 := hvh); (obtain ⟨vh1, rfl, hlh⟩ := hvh); (obtain ⟨ah, ch, rfl⟩ := hlh.form); (have q0' := hCh2.cell q0 id); (have q1' := hCh2.cell q1 id))
              | (go_at_call 104; (with_reducible refine (H2.out _ _ hCh2 hvh2).mono ?_); rintro e9 wi ⟨vi, rfl, hvi, hCi⟩; (have hCi2 := hCh2.tr hCi); (obtain ⟨vi1, rfl, hli⟩ := hvi); (obtain ⟨ai, ci, rfl⟩ := hli.form); (have z0' := hCi2.cell q0 id); (have z1' := hCi2.cell q1 id); (have g0' := hCi2.frozen q0 f0 id); (have g1' := hCi2.frozen q1 f1 id)))
            all_goals
              have hP := (HP.out.fr hCi2).putR hli
              obtain ⟨wj, hwj⟩ : ∃ X, (wi.setCell ⟨w.heap.size + 4, 0, none⟩ (.bool false)).setCell ⟨w.heap.size + 4, 1, none⟩ (.slice ai (dg (R * 2 + bb)).length ci) = X := ⟨_, rfl⟩
              rw [hwj] at hP ⊢
              clear hwj hCh hCh2 hvh2 hlh hCi hCi2 hli q0 q1 f0 f1 q0' q1' z0' z1' g0' g1' H1 H2 v1 v2 v3 d1 HP
              have HP := Lib.hid hP
              clear hP
              have q0 := HP.out.q.c0
              have q1 := HP.out.q.c1
              have t0 := HP.out.t.c0
              have t1 := HP.out.t.c1
              have hml : Calls Try.prog 106 #[.agg #[.bool false, .slice qa (dg Q).length qc], .agg #[.bool false, .slice ta (dg 2).length tc]] wj (GaveBg wj (false, Q * 2)) := r12mul_any _ _ false false Q 2 wj HP.out.q.big HP.out.t.big (dg_small (by rw [pw8]; have := HRB.out; omega)) (dg_small (by rw [pw8]; omega))
              unfold GaveBg at hml
              go_wp2_with fail
              refine hml.mono ?_
              clear hml q0 q1 t0 t1
              rintro e9 wc ⟨vq, rfl, hvq, hCc⟩
              obtain ⟨vs, rfl, hvl⟩ := hvq
              obtain ⟨a3, c3, rfl⟩ := hvl.form
              replace HP := Lib.hid (HP.out.fr hCc)
              have q0 := HP.out.q.c0
              have q1 := HP.out.q.c1
              have f0 := HP.out.q.f0
              have f1 := HP.out.q.f1
              have hP := HP.out.putQ hvl
              clear hvl hCc
              go_upto_region 17 with (fail)
              obtain ⟨wd, hwd⟩ : ∃ X, (wc.setCell ⟨w.heap.size + 3, 0, none⟩ (.bool false)).setCell ⟨w.heap.size + 3, 1, none⟩ (.slice a3 (dg (Q * 2)).length c3) = X := ⟨_, rfl⟩
              rw [hwd] at hP ⊢
              clear q0 q1 f0 f1 hwd HP
              have HP := Lib.hid hP
              have r1 := hP.r.c1
              have y1 := hP.y.c1
              have hsz := r12size_any _ _ (R * 2 + bb) n wd hP.r.lu hP.y.lu (Nat.le_trans (dg_small (by rw [pw8]; have := HRB.out; have := HR3.out.2.2; have := HB.out; omega)) (by decide)) (Nat.le_trans (dg_small (by rw [pw8]; have := HB.out; omega)) (by decide))
              unfold GaveZ at hsz
              obtain ⟨z, hz⟩ : ∃ z, szN (R * 2 + bb) n = z := ⟨_, rfl⟩
              rw [hz] at hsz
              clear hP
              by_cases hge : n ≤ (R * 2 + bb)
              · have dz : decide (0 ≤ z) = true := decide_eq_true (by rw [← hz]; unfold szN; split <;> (try split) <;> omega)
                have HGE := Lib.hid hge
                clear hge hz
                go_wp2_with fail
                refine hsz.mono ?_
                clear hsz r1 y1
                rintro e9 we ⟨rfl, hCe⟩
                replace HP := Lib.hid (HP.out.fr hCe)
                have r1 := HP.out.r.c1
                have y1 := HP.out.y.c1
                have hmn := r12minus_any _ _ (R * 2 + bb) n we HP.out.r.lu HP.out.y.lu (Nat.le_trans (dg_small (by rw [pw8]; have := HRB.out; have := HR3.out.2.2; have := HB.out; omega)) (by decide)) HGE.out
                unfold GaveLu at hmn
                clear hCe
                go_wp2_with fail
                refine hmn.mono ?_
                clear hmn r1 y1
                rintro e9 wf ⟨a4, c4, rfl, hS4, hCf⟩
                replace HP := Lib.hid (HP.out.fr hCf)
                have r0 := HP.out.r.c0
                have r1 := HP.out.r.c1
                have f0 := HP.out.r.f0
                have f1 := HP.out.r.f1
                have hP := HP.out.putR hS4
                clear hS4 hCf
                go_upto_region 19 with (fail)
                obtain ⟨wg, hwg⟩ : ∃ X, (wf.setCell ⟨w.heap.size + 4, 0, none⟩ (.bool false)).setCell ⟨w.heap.size + 4, 1, none⟩ (.slice a4 (dg ((R * 2 + bb) - n)).length c4) = X := ⟨_, rfl⟩
                rw [hwg] at hP ⊢
                clear r0 r1 f0 f1 hwg HP
                have HP := Lib.hid hP
                have q0 := hP.q.c0
                have q1 := hP.q.c1
                have f0 := hP.q.f0
                have f1 := hP.q.f1
                have H1 := Lib.hid (show ∀ w', Calls Try.prog 102 #[.int .i64 1] w' (GaveBg w' (false, 1)) from fun w' => r12of_any 1 (by unfold In; decide) w')
                have H2 := Lib.hid (show ∀ w' v, Chg (fun _ => False) wg w' → BigV w' v false 1 → Calls Try.prog 104 #[.agg #[.bool false, .slice a3 (dg (Q * 2)).length c3], v] w' (GaveBg w' (false, Q * 2 + 1)) from fun w' v h hv => r12add_any _ _ false false (Q * 2) 1 w' ((HP.out.q.fr h).big) hv (Nat.le_trans (dg_small (by rw [pw8]; have := HRB.out; omega)) (by decide)) (by decide))
                have hkw : IntKind.i64.wrap ((k : Int) - 1) = (k : Int) - 1 := IntWalk.i64_in _ (by have := HK.out; omega)
                unfold GaveBg at H1 H2
                clear hP
                go_region_with (first
                  | (go_at_call 102; (with_reducible refine (H1.out _).mono ?_); rintro e9 wh ⟨vh, rfl, hvh, hCh⟩; (have hCh2 := (Chg.refl (fun _ => False) wg).drew.tr hCh); (have hvh2 := hvh); (obtain ⟨vh1, rfl, hlh⟩ := hvh); (obtain ⟨ah, ch, rfl⟩ := hlh.form); (have q0' := hCh2.cell q0 id); (have q1' := hCh2.cell q1 id))
                  | (go_at_call 104; (with_reducible refine (H2.out _ _ hCh2 hvh2).mono ?_); rintro e9 wi ⟨vi, rfl, hvi, hCi⟩; (have hCi2 := hCh2.tr hCi); (obtain ⟨vi1, rfl, hli⟩ := hvi); (obtain ⟨ai, ci, rfl⟩ := hli.form); (have z0' := hCi2.cell q0 id); (have z1' := hCi2.cell q1 id); (have g0' := hCi2.frozen q0 f0 id); (have g1' := hCi2.frozen q1 f1 id)))
                all_goals
                  have HPZ := Lib.hid ((HP.out.fr hCi2).putQ hli)
                  have HNX := Lib.hid (HR3.out.2.1 HGE.out)
                  clear hCh hCh2 hvh2 hlh hCi hCi2 hli q0 q1 f0 f1 q0' q1' z0' z1' g0' g1'
                  go_wp2
                  go_roundw
                  case rel => exact ⟨k, (k : Int) - 1, rfl, by have := HK.out; omega, rfl, _, _, _, _, by rw [HNX.out.1, HNX.out.2, Nat.mul_comm 2 Q]; exact HPZ.out⟩
                  case measure => simp only [intOf]; omega
              · have dz : decide (0 ≤ z) = false := decide_eq_false (by rw [← hz]; unfold szN; rw [if_pos (by omega)]; decide)
                have HNX := Lib.hid (HR3.out.1 (by omega))
                have hkw : IntKind.i64.wrap ((k : Int) - 1) = (k : Int) - 1 := IntWalk.i64_in _ (by have := HK.out; omega)
                clear hge hz
                go_wp2_with fail
                refine hsz.mono ?_
                clear hsz r1 y1
                rintro e9 we ⟨rfl, hCe⟩
                replace HP := Lib.hid (HP.out.fr hCe)
                clear hCe
                go_wp2
                go_roundw
                case rel => exact ⟨k, (k : Int) - 1, rfl, by have := HK.out; omega, rfl, _, _, _, _, by rw [HNX.out.1, HNX.out.2, Nat.mul_comm 2 Q]; exact HP.out⟩
                case measure => simp only [intOf]; omega
      · have d1 : decide (d < lx) = false := decide_eq_false hdl
        have hb0 : m / 2 ^ k % 2 = 0 := by
          rw [← hbit, List.getD_eq_getElem?_getD, List.getElem?_eq_none (by omega)]
          simp
        rw [hb0] at HST
        have HP := Lib.hid hP
        clear hbit hb0 hdl hlx hd he hP
        have q0 := HP.out.q.c0
        have q1 := HP.out.q.c1
        have t0 := HP.out.t.c0
        have t1 := HP.out.t.c1
        have hml : Calls Try.prog 106 #[.agg #[.bool false, .slice qa (dg Q).length qc], .agg #[.bool false, .slice ta (dg 2).length tc]] wb (GaveBg wb (false, Q * 2)) := r12mul_any _ _ false false Q 2 wb HP.out.q.big HP.out.t.big (dg_small (by rw [pw8]; have := HRB.out; omega)) (dg_small (by rw [pw8]; omega))
        unfold GaveBg at hml
        have HR3 := Lib.hid (show (R * 2 < n → m / 2 ^ k % n = R * 2 ∧ m / 2 ^ k / n = 2 * Q) ∧ (n ≤ R * 2 → m / 2 ^ k % n = R * 2 - n ∧ m / 2 ^ k / n = 2 * Q + 1) ∧ R * 2 < 2 * n from by
          have h := HST.out
          simp only [Nat.add_zero, Nat.mul_comm 2 R] at h
          exact h)
        go_wp2_with fail
        refine hml.mono ?_
        clear hml q0 q1 t0 t1
        rintro e9 wc ⟨vq, rfl, hvq, hCc⟩
        obtain ⟨vs, rfl, hvl⟩ := hvq
        obtain ⟨a3, c3, rfl⟩ := hvl.form
        replace HP := Lib.hid (HP.out.fr hCc)
        have q0 := HP.out.q.c0
        have q1 := HP.out.q.c1
        have f0 := HP.out.q.f0
        have f1 := HP.out.q.f1
        have hP := HP.out.putQ hvl
        clear hvl hCc
        go_upto_region 17 with (fail)
        obtain ⟨wd, hwd⟩ : ∃ X, (wc.setCell ⟨w.heap.size + 3, 0, none⟩ (.bool false)).setCell ⟨w.heap.size + 3, 1, none⟩ (.slice a3 (dg (Q * 2)).length c3) = X := ⟨_, rfl⟩
        rw [hwd] at hP ⊢
        clear q0 q1 f0 f1 hwd HP
        have HP := Lib.hid hP
        have r1 := hP.r.c1
        have y1 := hP.y.c1
        have hsz := r12size_any _ _ (R * 2) n wd hP.r.lu hP.y.lu (Nat.le_trans (dg_small (by rw [pw8]; have := HRB.out; have := HR3.out.2.2; have := HB.out; omega)) (by decide)) (Nat.le_trans (dg_small (by rw [pw8]; have := HB.out; omega)) (by decide))
        unfold GaveZ at hsz
        obtain ⟨z, hz⟩ : ∃ z, szN (R * 2) n = z := ⟨_, rfl⟩
        rw [hz] at hsz
        clear hP
        by_cases hge : n ≤ (R * 2)
        · have dz : decide (0 ≤ z) = true := decide_eq_true (by rw [← hz]; unfold szN; split <;> (try split) <;> omega)
          have HGE := Lib.hid hge
          clear hge hz
          go_wp2_with fail
          refine hsz.mono ?_
          clear hsz r1 y1
          rintro e9 we ⟨rfl, hCe⟩
          replace HP := Lib.hid (HP.out.fr hCe)
          have r1 := HP.out.r.c1
          have y1 := HP.out.y.c1
          have hmn := r12minus_any _ _ (R * 2) n we HP.out.r.lu HP.out.y.lu (Nat.le_trans (dg_small (by rw [pw8]; have := HRB.out; have := HR3.out.2.2; have := HB.out; omega)) (by decide)) HGE.out
          unfold GaveLu at hmn
          clear hCe
          go_wp2_with fail
          refine hmn.mono ?_
          clear hmn r1 y1
          rintro e9 wf ⟨a4, c4, rfl, hS4, hCf⟩
          replace HP := Lib.hid (HP.out.fr hCf)
          have r0 := HP.out.r.c0
          have r1 := HP.out.r.c1
          have f0 := HP.out.r.f0
          have f1 := HP.out.r.f1
          have hP := HP.out.putR hS4
          clear hS4 hCf
          go_upto_region 19 with (fail)
          obtain ⟨wg, hwg⟩ : ∃ X, (wf.setCell ⟨w.heap.size + 4, 0, none⟩ (.bool false)).setCell ⟨w.heap.size + 4, 1, none⟩ (.slice a4 (dg ((R * 2) - n)).length c4) = X := ⟨_, rfl⟩
          rw [hwg] at hP ⊢
          clear r0 r1 f0 f1 hwg HP
          have HP := Lib.hid hP
          have q0 := hP.q.c0
          have q1 := hP.q.c1
          have f0 := hP.q.f0
          have f1 := hP.q.f1
          have H1 := Lib.hid (show ∀ w', Calls Try.prog 102 #[.int .i64 1] w' (GaveBg w' (false, 1)) from fun w' => r12of_any 1 (by unfold In; decide) w')
          have H2 := Lib.hid (show ∀ w' v, Chg (fun _ => False) wg w' → BigV w' v false 1 → Calls Try.prog 104 #[.agg #[.bool false, .slice a3 (dg (Q * 2)).length c3], v] w' (GaveBg w' (false, Q * 2 + 1)) from fun w' v h hv => r12add_any _ _ false false (Q * 2) 1 w' ((HP.out.q.fr h).big) hv (Nat.le_trans (dg_small (by rw [pw8]; have := HRB.out; omega)) (by decide)) (by decide))
          have hkw : IntKind.i64.wrap ((k : Int) - 1) = (k : Int) - 1 := IntWalk.i64_in _ (by have := HK.out; omega)
          unfold GaveBg at H1 H2
          clear hP
          go_region_with (first
            | (go_at_call 102; (with_reducible refine (H1.out _).mono ?_); rintro e9 wh ⟨vh, rfl, hvh, hCh⟩; (have hCh2 := (Chg.refl (fun _ => False) wg).drew.tr hCh); (have hvh2 := hvh); (obtain ⟨vh1, rfl, hlh⟩ := hvh); (obtain ⟨ah, ch, rfl⟩ := hlh.form); (have q0' := hCh2.cell q0 id); (have q1' := hCh2.cell q1 id))
            | (go_at_call 104; (with_reducible refine (H2.out _ _ hCh2 hvh2).mono ?_); rintro e9 wi ⟨vi, rfl, hvi, hCi⟩; (have hCi2 := hCh2.tr hCi); (obtain ⟨vi1, rfl, hli⟩ := hvi); (obtain ⟨ai, ci, rfl⟩ := hli.form); (have z0' := hCi2.cell q0 id); (have z1' := hCi2.cell q1 id); (have g0' := hCi2.frozen q0 f0 id); (have g1' := hCi2.frozen q1 f1 id)))
          all_goals
            have HPZ := Lib.hid ((HP.out.fr hCi2).putQ hli)
            have HNX := Lib.hid (HR3.out.2.1 HGE.out)
            clear hCh hCh2 hvh2 hlh hCi hCi2 hli q0 q1 f0 f1 q0' q1' z0' z1' g0' g1'
            go_wp2
            go_roundw
            case rel => exact ⟨k, (k : Int) - 1, rfl, by have := HK.out; omega, rfl, _, _, _, _, by rw [HNX.out.1, HNX.out.2, Nat.mul_comm 2 Q]; exact HPZ.out⟩
            case measure => simp only [intOf]; omega
        · have dz : decide (0 ≤ z) = false := decide_eq_false (by rw [← hz]; unfold szN; rw [if_pos (by omega)]; decide)
          have HNX := Lib.hid (HR3.out.1 (by omega))
          have hkw : IntKind.i64.wrap ((k : Int) - 1) = (k : Int) - 1 := IntWalk.i64_in _ (by have := HK.out; omega)
          clear hge hz
          go_wp2_with fail
          refine hsz.mono ?_
          clear hsz r1 y1
          rintro e9 we ⟨rfl, hCe⟩
          replace HP := Lib.hid (HP.out.fr hCe)
          clear hCe
          go_wp2
          go_roundw
          case rel => exact ⟨k, (k : Int) - 1, rfl, by have := HK.out; omega, rfl, _, _, _, _, by rw [HNX.out.1, HNX.out.2, Nat.mul_comm 2 Q]; exact HP.out⟩
          case measure => simp only [intOf]; omega
end Go.Proofs.Ytjmlekdgipinfaa
