/- ScalarEach: the walk up to MapTwo . -/
import Derived.Test.YtachmmicdjmjkaaSdB
import Derived.Test.YtachmmicdjmjkaaScW
import Derived.Test.YtachmmicdjmjkaaArO
namespace Go.Proofs.Ytachmmicdjmjkaa
open Go.RowKit Go.Shelf
attribute [local go_sem] Oper.semAt_some

theorem chg_drew' {w w' : World} (h : Chg (fun _ => False) w w') : Chg (fun _ => False) w w'.drew := h.drew
theorem grtN_not {A : Ar} (h : ¬ 0 < grtN A) : A.e.length ≤ 5000 ∧ A.s.length ≤ 100 := by
  unfold grtN at h
  split at h
  · exact absurd (by decide) h
  · omega
theorem func_eqM (k : Nat) (lb : Array Value) (w : World) : (binOp .eql 47 (.func (.func k) #[] lb) .nilFunc).run Try.prog w = .ok (.bool false) w := by
  kernel_rfl
theorem mt_cases (f : Int) (A B : Ar) : (chkB A = true ∧ chkB B = true ∧ togE A.s B.s = 0 ∧ knE f A.k B.k = 0 → mtE f A B = frE (mixP f A.k B.k) (prL A B (toN A B))) ∧ (¬ (chkB A = true ∧ chkB B = true ∧ togE A.s B.s = 0 ∧ knE f A.k B.k = 0) → mtE f A B ≠ 0) := by
  constructor
  · rintro ⟨h1, h2, h3, h4⟩
    unfold mtE
    have h5 : binB f = true := by
      cases h : binB f with
      | true => rfl
      | false => unfold knE at h4; rw [h] at h4; simp at h4
    rw [h1, h2, h5]
    simp [h3, h4]
  · intro h
    unfold mtE
    cases h5 : binB f with
    | false => simp
    | true =>
      cases h1 : chkB A with
      | false => simp
      | true =>
        cases h2 : chkB B with
        | false => simp
        | true =>
          by_cases h3 : togE A.s B.s = 0
          · by_cases h4 : knE f A.k B.k = 0
            · exact absurd ⟨h1, h2, h3, h4⟩ h
            · simp [h3, h4]
          · simp [h3]
/-- The two arrays' boxes. -/
structure Bx2 (w : World) (p q : Nat) (sa ea ta fa : Option Addr) (cs ce ct cf : Nat) (A B : Ar) : Prop where
  a0 : w.cell? ⟨p, 0, none⟩ = some (.int .i64 A.k)
  a1 : w.cell? ⟨p, 1, none⟩ = some (.slice sa A.s.length cs)
  a2 : w.cell? ⟨p, 2, none⟩ = some (.slice ea A.e.length ce)
  b0 : w.cell? ⟨q, 0, none⟩ = some (.int .i64 B.k)
  b1 : w.cell? ⟨q, 1, none⟩ = some (.slice ta B.s.length ct)
  b2 : w.cell? ⟨q, 2, none⟩ = some (.slice fa B.e.length cf)
  ls : Ls w (.slice sa A.s.length cs) A.s ∧ Ls w (.slice ea A.e.length ce) A.e ∧ Ls w (.slice ta B.s.length ct) B.s ∧ Ls w (.slice fa B.e.length cf) B.e
theorem Bx2.fr {w w' : World} {p q : Nat} {sa ea ta fa : Option Addr} {cs ce ct cf : Nat} {A B : Ar} (h : Bx2 w p q sa ea ta fa cs ce ct cf A B) (hC : Chg (fun _ => False) w w') : Bx2 w' p q sa ea ta fa cs ce ct cf A B :=
  ⟨hC.cell h.a0 id, hC.cell h.a1 id, hC.cell h.a2 id, hC.cell h.b0 id, hC.cell h.b1 id, hC.cell h.b2 id, h.ls.1.fr hC, h.ls.2.1.fr hC, h.ls.2.2.1.fr hC, h.ls.2.2.2.fr hC⟩
theorem Bx2.araA {w : World} {p q : Nat} {sa ea ta fa : Option Addr} {cs ce ct cf : Nat} {A B : Ar} (h : Bx2 w p q sa ea ta fa cs ce ct cf A B) : Ara w (.agg #[.int .i64 A.k, .slice sa A.s.length cs, .slice ea A.e.length ce]) A := ⟨_, _, rfl, h.ls.1, h.ls.2.1⟩
theorem Bx2.araB {w : World} {p q : Nat} {sa ea ta fa : Option Addr} {cs ce ct cf : Nat} {A B : Ar} (h : Bx2 w p q sa ea ta fa cs ce ct cf A B) : Ara w (.agg #[.int .i64 B.k, .slice ta B.s.length ct, .slice fa B.e.length cf]) B := ⟨_, _, rfl, h.ls.2.2.1, h.ls.2.2.2⟩
theorem el_at {A : Ar} {i : Nat} (h : HasAt A i) : ∃ j, ∃ hj : j < A.e.length, elAt A i = A.e[j] ∧ ((A.s = [] ∧ j = 0) ∨ (A.s ≠ [] ∧ i = j)) := by
  unfold elAt
  rcases h with ⟨h1, h2⟩ | ⟨h1, h2⟩
  · exact ⟨0, h2, by rw [if_pos h1]; simp [h2], .inl ⟨h1, rfl⟩⟩
  · exact ⟨i, h2, by rw [if_neg h1]; simp [h2], .inr ⟨h1, rfl⟩⟩
theorem frE_next (p : Int → Int → Int × Int) (A B : Ar) (n i : Nat) (hi : i < n) (h : frE p ((prL A B n).take i) = 0) : frE p ((prL A B n).take (i + 1)) = (p (elAt A i) (elAt B i)).2 := by
  rw [prL_succ A B n i hi, frE_app p _ _ h]
  simp only [frE]
  split
  · rename_i h1; exact h1.symm
  · rfl
theorem frE_all (p : Int → Int → Int × Int) (A B : Ar) (n i : Nat) (h : frE p ((prL A B n).take i) ≠ 0) : frE p (prL A B n) = frE p ((prL A B n).take i) := by
  have := frE_ne p ((prL A B n).take i) ((prL A B n).drop i) h
  rw [List.take_append_drop] at this
  exact this
theorem vaL_at (p : Int → Int → Int × Int) (A B : Ar) (n i : Nat) (hi : i < n) : (vaL p (prL A B n))[i]? = some (p (elAt A i) (elAt B i)).1 := by
  simp [vaL, prL, hi]
set_option maxRecDepth 100000 in
set_option maxHeartbeats 6000000 in
theorem scalarEach_walk (f : Int) (u : Value) (A : Ar) (v : Value) (B : Ar) (W : World) (_h : (Lit.int .i64 f).wf = true) (h1 : OkArr W u A) (h2 : OkArr W v B) : Calls Try.prog 9 #[.int .i64 f, u, v] W (True_ W) := by
  clear _h
  have hA := h1.1
  have hB := h2.1
  have HOK := Lib.hid (And.intro h1 h2)
  clear h1 h2
  have hal := alive_any
  obtain ⟨vs, ve, rfl, hs, he⟩ := hA
  obtain ⟨us, ue, rfl, ht, hf⟩ := hB
  obtain ⟨sa, cs, rfl, _⟩ := hs.form
  obtain ⟨ea, ce, rfl, _⟩ := he.form
  obtain ⟨ta, ct, rfl, _⟩ := ht.form
  obtain ⟨fa, cf, rfl, _⟩ := hf.form
  have HL := Lib.hid (show Ls W _ A.s ∧ Ls W _ A.e ∧ Ls W _ B.s ∧ Ls W _ B.e from ⟨hs, he, ht, hf⟩)
  clear hs he ht hf
  go_enter Try.func9, Try.ntmps9
  go_wp2_with fail
  obtain ⟨v1, hv1⟩ : ∃ v, W.alloc (.cells #[.int .i64 A.k, .slice sa A.s.length cs, .slice ea A.e.length ce] 41) = v := ⟨_, rfl⟩
  obtain ⟨v2, hv2⟩ : ∃ v, v1.alloc (.cells #[.int .i64 B.k, .slice ta B.s.length ct, .slice fa B.e.length cf] 41) = v := ⟨_, rfl⟩
  rw [hv1, hv2]
  have z1 : v1.heap.size = W.heap.size + 1 := by rw [← hv1, World.size_alloc]
  have g1 : Chg (fun _ => False) W v1 := by rw [← hv1]; exact (Chg.refl _ _).alloc _
  have g2 : Chg (fun _ => False) v1 v2 := by rw [← hv2]; exact (Chg.refl _ _).alloc _
  obtain ⟨a0, a1, a2⟩ := cells3 W (.int .i64 A.k) (.slice sa A.s.length cs) (.slice ea A.e.length ce) 41
  rw [hv1] at a0 a1 a2
  obtain ⟨b0, b1, b2⟩ := cells3 v1 (.int .i64 B.k) (.slice ta B.s.length ct) (.slice fa B.e.length cf) 41
  rw [z1, hv2] at b0 b1 b2
  have HB2 := Lib.hid (show Bx2 v2 W.heap.size (W.heap.size + 1) sa ea ta fa cs ce ct cf A B from ⟨g2.cell a0 id, g2.cell a1 id, g2.cell a2 id, b0, b1, b2, HL.out.1.fr (g1.tr g2), HL.out.2.1.fr (g1.tr g2), HL.out.2.2.1.fr (g1.tr g2), HL.out.2.2.2.fr (g1.tr g2)⟩)
  have HC := Lib.hid (g1.tr g2)
  clear HL a0 a1 a2 b0 b1 b2 g1 g2 hv1 hv2 z1
  have a0 := HB2.out.a0
  have a1 := HB2.out.a1
  have a2 := HB2.out.a2
  have b0 := HB2.out.b0
  have b1 := HB2.out.b1
  have b2 := HB2.out.b2
  refine (hal _).mono ?_
  clear hal
  rintro e9 w1 ⟨rfl, hC1⟩
  clear a0 a1 a2 b0 b1 b2
  replace HB2 := Lib.hid (HB2.out.fr hC1)
  replace HC := Lib.hid (HC.out.tr hC1)
  have a0 := HB2.out.a0
  have a1 := HB2.out.a1
  have a2 := HB2.out.a2
  have b0 := HB2.out.b0
  have b1 := HB2.out.b1
  have b2 := HB2.out.b2
  clear hC1
  have hg1 := r11great_any _ A _ HB2.out.araA
  go_wp2_with fail
  refine hg1.mono ?_
  clear hg1
  rintro e9 w2 ⟨rfl, hC2⟩
  clear a0 a1 a2 b0 b1 b2
  replace HB2 := Lib.hid (HB2.out.fr hC2)
  replace HC := Lib.hid (HC.out.tr hC2)
  have a0 := HB2.out.a0
  have a1 := HB2.out.a1
  have a2 := HB2.out.a2
  have b0 := HB2.out.b0
  have b1 := HB2.out.b1
  have b2 := HB2.out.b2
  clear hC2
  by_cases hga : 0 < grtN A
  · have hg' : decide (0 < grtN A) = true := decide_eq_true hga
    clear hga
    go_wp2
    go_ret
    exact ⟨rfl, HC.out⟩
  · have hg' : decide (0 < grtN A) = false := decide_eq_false hga
    have HGA := Lib.hid (grtN_not hga)
    clear hga
    have hg1 := r11great_any _ B _ HB2.out.araB
    go_wp2_with fail
    refine hg1.mono ?_
    clear hg1
    rintro e9 w3 ⟨rfl, hC3⟩
    clear a0 a1 a2 b0 b1 b2
    replace HB2 := Lib.hid (HB2.out.fr hC3)
    replace HC := Lib.hid (HC.out.tr hC3)
    have a0 := HB2.out.a0
    have a1 := HB2.out.a1
    have a2 := HB2.out.a2
    have b0 := HB2.out.b0
    have b1 := HB2.out.b1
    have b2 := HB2.out.b2
    clear hC3
    by_cases hgb : 0 < grtN B
    · have hg2' : decide (0 < grtN B) = true := decide_eq_true hgb
      clear hgb
      go_wp2
      go_ret
      exact ⟨rfl, HC.out⟩
    · have hg2' : decide (0 < grtN B) = false := decide_eq_false hgb
      have HGB := Lib.hid (grtN_not hgb)
      clear hgb
      have hmt := maptwo_any f _ _ A B w3 HB2.out.araA HB2.out.araB (by have := HGA.out.1; omega) (by have := HGB.out.1; omega) (fun x hx => HOK.out.1.2.2.2 x hx) (fun x hx => HOK.out.2.2.2.2 x hx)
      unfold GaveMT at hmt
      go_wp2_with fail
      refine hmt.mono ?_
      clear hmt
      rintro e9 w4 ⟨mv, rfl, hC4, hm0, hm1⟩
      have hs3 := HC.out.size
      clear a0 a1 a2 b0 b1 b2
      replace HB2 := Lib.hid (HB2.out.fr hC4)
      replace HC := Lib.hid (HC.out.tr hC4)
      have a0 := HB2.out.a0
      have a1 := HB2.out.a1
      have a2 := HB2.out.a2
      have b0 := HB2.out.b0
      have b1 := HB2.out.b1
      have b2 := HB2.out.b2
      have HM := Lib.hid (show (mtE f A B = 0 → OwnA w4 W.heap.size mv ⟨1, togL A.s B.s, vaL (mixP f A.k B.k) (prL A B (toN A B))⟩) ∧ (mtE f A B ≠ 0 → mv = .agg #[.int .i64 0, .slice none 0 0, .slice none 0 0]) from ⟨fun h => by
        obtain ⟨x1, x2, e1, e2, e3⟩ := hm0 h
        exact ⟨x1, x2, e1, e2.mono hs3, e3.mono hs3⟩, hm1⟩)
      clear hm0 hm1 hC4 hs3
      obtain ⟨ck, m1, n1, c1, m2, n2, c2, hmv⟩ : ∃ ck m1 n1 c1 m2 n2 c2, mv = .agg #[.int .i64 ck, .slice m1 n1 c1, .slice m2 n2 c2] := by
        by_cases h : mtE f A B = 0
        · obtain ⟨x1, x2, e1, e2, e3⟩ := HM.out.1 h
          obtain ⟨ao, co, rfl⟩ := own_name e2
          obtain ⟨ap, cp, rfl⟩ := own_name e3
          exact ⟨_, _, _, _, _, _, _, e1⟩
        · exact ⟨_, _, _, _, _, _, _, HM.out.2 h⟩
      subst hmv
      have HMT := Lib.hid (mt_cases f A B)
      have htg := together_any (.slice sa A.s.length cs) (.slice ta B.s.length ct) A.s B.s
      unfold GaveSE at htg
      have hmx := mixed_any f A.k B.k
      unfold GaveFn at hmx
      have gA : W.heap.size < w4.heap.size := cell_lt a0
      have gB : W.heap.size + 1 < w4.heap.size := cell_lt b0
      go_wp2_with fail
      obtain ⟨w5, hw5⟩ : ∃ w5, w4.alloc (.cells #[.int .i64 ck, .slice m1 n1 c1, .slice m2 n2 c2] 41) = w5 := ⟨_, rfl⟩
      obtain ⟨bm, hbm⟩ : ∃ bm, w4.heap.size = bm := ⟨_, rfl⟩
      have hC5 : Chg (fun _ => False) w4 w5 := by rw [← hw5]; exact (Chg.refl _ _).alloc _
      obtain ⟨d0, d1, d2⟩ := cells3 w4 (.int .i64 ck) (.slice m1 n1 c1) (.slice m2 n2 c2) 41
      rw [hw5, hbm] at d0 d1 d2
      rw [hw5, hbm]
      have HBM := Lib.hid hbm
      clear hw5 hbm
      clear a0 a1 a2 b0 b1 b2
      replace HB2 := Lib.hid (HB2.out.fr hC5)
      replace HC := Lib.hid (HC.out.tr hC5)
      have a0 := HB2.out.a0
      have a1 := HB2.out.a1
      have a2 := HB2.out.a2
      have b0 := HB2.out.b0
      have b1 := HB2.out.b1
      have b2 := HB2.out.b2
      replace HM := Lib.hid (show (mtE f A B = 0 → OwnA w5 W.heap.size (.agg #[.int .i64 ck, .slice m1 n1 c1, .slice m2 n2 c2]) ⟨1, togL A.s B.s, vaL (mixP f A.k B.k) (prL A B (toN A B))⟩) ∧ (mtE f A B ≠ 0 → ck = 0 ∧ n2 = 0) from ⟨fun h => by
        obtain ⟨x1, x2, e1, e2, e3⟩ := HM.out.1 h
        exact ⟨x1, x2, e1, e2.fr hC5, e3.fr hC5⟩, fun h => by
        have := HM.out.2 h
        simp at this
        exact ⟨this.1, this.2.2.2.1⟩⟩)
      clear hC5
      refine (htg w5 HB2.out.ls.1 HB2.out.ls.2.2.1).mono ?_
      clear htg
      rintro e9 w6 ⟨vt, rfl, hot, hC6⟩
      have HOT := Lib.hid hot.ls
      obtain ⟨ao, co, rfl⟩ := own_name hot
      clear a0 a1 a2 b0 b1 b2
      replace HB2 := Lib.hid (HB2.out.fr hC6)
      replace HC := Lib.hid (HC.out.tr hC6)
      have a0 := HB2.out.a0
      have a1 := HB2.out.a1
      have a2 := HB2.out.a2
      have b0 := HB2.out.b0
      have b1 := HB2.out.b1
      have b2 := HB2.out.b2
      replace d0 := hC6.cell d0 id
      replace d1 := hC6.cell d1 id
      replace d2 := hC6.cell d2 id
      have HC56 := Lib.hid hC6
      clear hot hC6
      have HTN := Lib.hid (fun (q1 : chkB A = true) (q2 : chkB B = true) (q3 : togE A.s B.s = 0) => tog_n q1 q2 q3 (by have := HGA.out.1; omega : A.e.length ≤ 1000000) (by have := HGB.out.1; omega : B.e.length ≤ 1000000))
      generalize togE A.s B.s = et at *
      go_wp2_with fail
      refine (hmx w6).mono ?_
      clear hmx
      rintro e9 w7 ⟨vf, rfl, hf0, hfn, hC7⟩
      clear a0 a1 a2 b0 b1 b2
      replace HB2 := Lib.hid (HB2.out.fr hC7)
      replace HC := Lib.hid (HC.out.tr hC7)
      have a0 := HB2.out.a0
      have a1 := HB2.out.a1
      have a2 := HB2.out.a2
      have b0 := HB2.out.b0
      have b1 := HB2.out.b1
      have b2 := HB2.out.b2
      replace d0 := hC7.cell d0 id
      replace d1 := hC7.cell d1 id
      replace d2 := hC7.cell d2 id
      replace HOT := Lib.hid (HOT.out.fr hC7)
      replace HC56 := Lib.hid (HC56.out.tr hC7)
      clear hC7
      have hck := check_any _ A _ HB2.out.araA (by have := HGA.out.1; omega)
      unfold GaveI at hck
      go_wp2_with fail
      refine hck.mono ?_
      clear hck
      rintro e9 w8 ⟨rfl, hC8⟩
      clear a0 a1 a2 b0 b1 b2
      replace HB2 := Lib.hid (HB2.out.fr hC8)
      replace HC := Lib.hid (HC.out.tr hC8)
      have a0 := HB2.out.a0
      have a1 := HB2.out.a1
      have a2 := HB2.out.a2
      have b0 := HB2.out.b0
      have b1 := HB2.out.b1
      have b2 := HB2.out.b2
      replace d0 := hC8.cell d0 id
      replace d1 := hC8.cell d1 id
      replace d2 := hC8.cell d2 id
      replace HOT := Lib.hid (HOT.out.fr hC8)
      replace HC56 := Lib.hid (HC56.out.tr hC8)
      cases hca : chkB A with
      | false =>
        have hne := HMT.out.2 (fun h => by rw [hca] at h; cases h.1)
        rw [show chkE A = 110 by unfold chkE; rw [hca]; rfl]
        clear hf0 hfn hC8
        obtain ⟨rfl, rfl⟩ := HM.out.2 hne
        have eb : (mtE f A B == 0) = false := beq_eq_false_iff_ne.2 hne
        have eb2 : (mtE f A B != 0) = true := bne_iff_ne.2 hne
        clear hne
        go_wp2
        go_ret
        exact ⟨rfl, HC.out⟩
      | true =>
        rw [show chkE A = 0 by unfold chkE; rw [hca]; rfl]
        have hck := check_any _ B _ HB2.out.araB (by have := HGB.out.1; omega)
        unfold GaveI at hck
        have HF8 := Lib.hid hC8
        clear hC8
        go_wp2_with fail
        refine hck.mono ?_
        clear hck
        rintro e9 w9 ⟨rfl, hC9⟩
        clear a0 a1 a2 b0 b1 b2
        replace HB2 := Lib.hid (HB2.out.fr hC9)
        replace HC := Lib.hid (HC.out.tr hC9)
        have a0 := HB2.out.a0
        have a1 := HB2.out.a1
        have a2 := HB2.out.a2
        have b0 := HB2.out.b0
        have b1 := HB2.out.b1
        have b2 := HB2.out.b2
        replace d0 := hC9.cell d0 id
        replace d1 := hC9.cell d1 id
        replace d2 := hC9.cell d2 id
        replace HOT := Lib.hid (HOT.out.fr hC9)
        replace HC56 := Lib.hid (HC56.out.tr hC9)
        cases hcb : chkB B with
        | false =>
          have hne := HMT.out.2 (fun h => by rw [hcb] at h; cases h.2.1)
          rw [show chkE B = 110 by unfold chkE; rw [hcb]; rfl]
          clear hf0 hfn hC9
          obtain ⟨rfl, rfl⟩ := HM.out.2 hne
          have eb : (mtE f A B == 0) = false := beq_eq_false_iff_ne.2 hne
          have eb2 : (mtE f A B != 0) = true := bne_iff_ne.2 hne
          clear hne
          go_wp2
          go_ret
          exact ⟨rfl, HC.out⟩
        | true =>
          rw [show chkE B = 0 by unfold chkE; rw [hcb]; rfl]
          by_cases hez : et = 0
          · by_cases hkz : knE f A.k B.k = 0
            · have hFn := (hf0 hkz).fr (HF8.out.tr hC9)
              have HRE := Lib.hid (HMT.out.1 ⟨hca, hcb, hez, hkz⟩)
              have HFN := Lib.hid hFn
              obtain ⟨gf, lb, rfl, egf, hcf⟩ := hFn
              have HCF := Lib.hid hcf
              have hnf := fun w => func_eqM gf lb w
              have hca2 := count_any _ _ _ HOT.out
              unfold GaveC at hca2
              have HG := Lib.hid (And.intro hca (And.intro hcb hez))
              rw [hkz]
              subst hez
              clear hf0 hfn hC9 hcf hkz
              go_wp2_with fail
              refine hca2.mono ?_
              clear hca2
              rintro e9 w10 ⟨rfl, rfl⟩
              obtain ⟨hn1, hn2, hn3, hn4⟩ := HTN.out HG.out.1 HG.out.2.1 (by first | rfl | trivial)
              rw [hn1]
              generalize cntE (togL A.s B.s) = ee
              have HH := Lib.hid (And.intro hn3 hn4)
              have HN1 := Lib.hid hn1
              have HH2 := Lib.hid hn2
              clear hn1 hn3 hn4 HTN HMT
              generalize toN A B = N at *
              go_wp2
              go_loopw [16] (fun v wr => ∃ i : Nat, i ≤ N ∧ v = .int .i64 i ∧ Chg (fun _ => False) w10 wr ∧ frE (mixP f A.k B.k) ((prL A B N).take i) = 0) (fun v _ => N - (intOf v).toNat)
              case atStart => exact ⟨0, Nat.zero_le _, rfl, Chg.refl _ _, rfl⟩
              case round =>
                obtain ⟨i, hi, rfl, hCr, hfr⟩ := hrel
                have HF := Lib.hid hfr
                have HI := Lib.hid hi
                clear a0 a1 a2 b0 b1 b2
                replace HB2 := Lib.hid (HB2.out.fr hCr)
                replace HC := Lib.hid (HC.out.tr hCr)
                have a0 := HB2.out.a0
                have a1 := HB2.out.a1
                have a2 := HB2.out.a2
                have b0 := HB2.out.b0
                have b1 := HB2.out.b1
                have b2 := HB2.out.b2
                replace d0 := hCr.cell d0 id
                replace d1 := hCr.cell d1 id
                replace d2 := hCr.cell d2 id
                replace HOT := Lib.hid (HOT.out.fr hCr)
                replace HC56 := Lib.hid (HC56.out.tr hCr)
                by_cases hlt : i < N
                · have hd1 : decide ((i : Int) < (N : Int)) = true := decide_eq_true (by omega)
                  have HLT := Lib.hid hlt
                  have hcc := HCF.out (elAt A i) (elAt B i) (el_in (HH.out.1 i hlt) (fun x hx => HOK.out.1.2.2.2 x hx)) (el_in (HH.out.2 i hlt) (fun x hx => HOK.out.2.2.2.2 x hx)) wr.drew hCr.drew
                  obtain ⟨j, hj, ej, hjc⟩ := el_at (HH.out.1 i hlt)
                  obtain ⟨k, hk, ek, hkc⟩ := el_at (HH.out.2 i hlt)
                  obtain ⟨ba, oa, qa, e1, hx⟩ := HB2.out.ls.2.1.at hj
                  injection e1 with e1 e1b e1c
                  subst e1
                  clear e1b e1c
                  obtain ⟨bb, ob, qb, e1, hy⟩ := HB2.out.ls.2.2.2.at hk
                  injection e1 with e1 e1b e1c
                  subst e1
                  clear e1b e1c
                  obtain ⟨⟨vx, ex⟩, hp⟩ : ∃ r, mixP f A.k B.k (elAt A i) (elAt B i) = r := ⟨_, rfl⟩
                  rw [hp, ej, ek] at hcc
                  unfold GaveP at hcc
                  simp only at hcc
                  have HP := Lib.hid hp
                  generalize A.e[j] = x at *
                  generalize B.e[k] = y at *
                  clear hp ej ek hlt hi hfr
                  have hj0 : (0 : Int) ≤ (j : Int) := by omega
                  have hj1 : (j : Int) < (A.e.length : Int) := by omega
                  have hk0 : (0 : Int) ≤ (k : Int) := by omega
                  have hk1 : (k : Int) < (B.e.length : Int) := by omega
                  have HCR := Lib.hid hCr
                  have HKW := Lib.hid (show IntKind.i64.wrap ((i : Int) + 1) = (i : Int) + 1 from IntWalk.i64_in _ (by have := HLT.out; have := HH2.out; omega))
                  rcases hjc with ⟨hsa, rfl⟩ | ⟨hsa, rfl⟩
                  · have t1 : ((A.s.length : Int) == 0) = true := by rw [hsa]; rfl
                    rw [Nat.add_zero] at hx
                    have hj2 : 0 < A.e.length := hj
                    clear hj0 hj1
                    rcases hkc with ⟨hsb, rfl⟩ | ⟨hsb, rfl⟩
                    · have t2 : ((B.s.length : Int) == 0) = true := by rw [hsb]; rfl
                      rw [Nat.add_zero] at hy
                      have hk2 : 0 < B.e.length := hk
                      clear hk0 hk1
                      clear hsa hsb
                      have KP := Lib.hid (show ∀ w', Chg (fun _ => False) wr w' → (Chg (fun _ => False) wr w' ∧ w'.cell? ⟨W.heap.size, 2, none⟩ = some (.slice (some ⟨ba, oa, none⟩) A.e.length ce) ∧ w'.cell? ⟨W.heap.size + 1, 2, none⟩ = some (.slice (some ⟨bb, ob, none⟩) B.e.length cf) ∧ w'.cell? ⟨ba, oa, none⟩ = some (.int .i64 x) ∧ w'.cell? ⟨bb, ob, none⟩ = some (.int .i64 y)) from fun w' h => ⟨h, h.cell a2 id, h.cell b2 id, h.cell hx id, h.cell hy id⟩)
                      go_wp2
                      go_region_held3 (fun w' => Chg (fun _ => False) wr w' ∧ w'.cell? ⟨W.heap.size, 2, none⟩ = some (.slice (some ⟨ba, oa, none⟩) A.e.length ce) ∧ w'.cell? ⟨W.heap.size + 1, 2, none⟩ = some (.slice (some ⟨bb, ob, none⟩) B.e.length cf) ∧ w'.cell? ⟨ba, oa, none⟩ = some (.int .i64 x) ∧ w'.cell? ⟨bb, ob, none⟩ = some (.int .i64 y)) ((refine KP.out _ ?_; repeat (first | (with_reducible exact Chg.refl _ _) | (with_reducible refine chg_drew' ?_) | (with_reducible refine Chg.tr ?_ hCP)))) (first | ((with_reducible refine hcc.mono ?_); rintro e9 wP ⟨rfl, hCP⟩))
                      all_goals
                        rename_i hHd
                        have hCP' := hHd.1
                        clear hHd
                        replace d0 := hCP'.cell d0 id
                        replace d1 := hCP'.cell d1 id
                        replace d2 := hCP'.cell d2 id
                        by_cases hex : ex = 0
                        · subst hex
                          have hnx : frE (mixP f A.k B.k) ((prL A B N).take (i + 1)) = 0 := by rw [frE_next _ A B N i HLT.out HF.out, HP.out]
                          have HNX := Lib.hid hnx
                          have HCP := Lib.hid hCP'
                          have hkw : IntKind.i64.wrap ((i : Int) + 1) = (i : Int) + 1 := HKW.out
                          by_cases h0 : mtE f A B = 0
                          · obtain ⟨x1, x2, e1, e2, e3⟩ := HM.out.1 h0
                            obtain ⟨ap, cp, rfl⟩ := own_name e2
                            obtain ⟨aq, cq, rfl⟩ := own_name e3
                            simp only [Value.agg.injEq, Array.mk.injEq, List.cons.injEq, Value.int.injEq, Value.slice.injEq, and_true, true_and] at e1
                            obtain ⟨rfl, ⟨rfl, rfl, rfl⟩, rfl, hn2', rfl⟩ := e1
                            have hvl : (vaL (mixP f A.k B.k) (prL A B N)).length = N := by simp [vaL, prL]
                            rw [hvl] at hn2'
                            replace hn2' := hn2'.symm
                            subst hn2'
                            have hiv : i < (vaL (mixP f A.k B.k) (prL A B N)).length := by rw [hvl]; exact HLT.out
                            obtain ⟨bv, ov, cv, ev, hv⟩ := (e3.fr (HC56.out.tr HCP.out)).ls.at hiv
                            have hvx : (vaL (mixP f A.k B.k) (prL A B N))[i] = vx := by
                              have h9 := vaL_at (mixP f A.k B.k) A B N i HLT.out
                              rw [List.getElem?_eq_getElem hiv, HP.out] at h9
                              exact Option.some.inj h9
                            rw [hvx] at hv
                            injection ev with ev ev2 ev3
                            subst ev
                            clear ev2 ev3
                            have hi0 : (0 : Int) ≤ (i : Int) := by omega
                            have hi1 : (i : Int) < (N : Int) := by have := HLT.out; omega
                            have hi2 : decide ((N : Int) ≤ (i : Int)) = false := decide_eq_false (by omega)
                            have hvv : (vx != vx) = false := by simp
                            have eb : (mtE f A B == 0) = true := beq_iff_eq.2 h0
                            clear h0 hnx hCP' e2 e3 hvl hiv hvx hcc hx hy a0 a1 a2 b0 b1 b2 hCP egf
                            go_wp2
                            go_roundw
                            case rel => exact ⟨i + 1, HLT.out, congrArg (Value.int IntKind.i64) (Int.natCast_succ i).symm, HCR.out.tr HCP.out, HNX.out⟩
                            case measure => exact fit_meas i _ HLT.out
                          · have eb : (mtE f A B == 0) = false := beq_eq_false_iff_ne.2 h0
                            clear h0 hnx hCP' hcc hx hy a0 a1 a2 b0 b1 b2 hCP egf
                            go_wp2
                            go_roundw
                            case rel => exact ⟨i + 1, HLT.out, congrArg (Value.int IntKind.i64) (Int.natCast_succ i).symm, HCR.out.tr HCP.out, HNX.out⟩
                            case measure => exact fit_meas i _ HLT.out
                        · have hmt : mtE f A B = ex := by
                            have h9 := frE_next (mixP f A.k B.k) A B N i HLT.out HF.out
                            rw [HP.out] at h9
                            rw [HRE.out, frE_all _ A B N (i + 1) (by rw [h9]; exact hex), h9]
                          obtain ⟨rfl, rfl⟩ := HM.out.2 (by rw [hmt]; exact hex)
                          have eb : (ex == 0) = false := beq_eq_false_iff_ne.2 hex
                          have eb2 : (ex != 0) = true := bne_iff_ne.2 hex
                          have eb3 : (mtE f A B == ex) = true := by rw [hmt]; exact beq_self_eq_true ex
                          have HCP := Lib.hid hCP'
                          clear hex hmt hCP' hcc hx hy a0 a1 a2 b0 b1 b2 hCP egf
                          go_wp2
                          go_ret
                          exact ⟨rfl, HC.out.tr HCP.out⟩
                    · have t2 : ((B.s.length : Int) == 0) = false := by rw [beq_eq_false_iff_ne]; have := List.length_pos_iff.2 hsb; omega
                      clear hsa hsb
                      have KP := Lib.hid (show ∀ w', Chg (fun _ => False) wr w' → (Chg (fun _ => False) wr w' ∧ w'.cell? ⟨W.heap.size, 2, none⟩ = some (.slice (some ⟨ba, oa, none⟩) A.e.length ce) ∧ w'.cell? ⟨W.heap.size + 1, 2, none⟩ = some (.slice (some ⟨bb, ob, none⟩) B.e.length cf) ∧ w'.cell? ⟨ba, oa, none⟩ = some (.int .i64 x) ∧ w'.cell? ⟨bb, ob + i, none⟩ = some (.int .i64 y)) from fun w' h => ⟨h, h.cell a2 id, h.cell b2 id, h.cell hx id, h.cell hy id⟩)
                      go_wp2
                      go_region_held3 (fun w' => Chg (fun _ => False) wr w' ∧ w'.cell? ⟨W.heap.size, 2, none⟩ = some (.slice (some ⟨ba, oa, none⟩) A.e.length ce) ∧ w'.cell? ⟨W.heap.size + 1, 2, none⟩ = some (.slice (some ⟨bb, ob, none⟩) B.e.length cf) ∧ w'.cell? ⟨ba, oa, none⟩ = some (.int .i64 x) ∧ w'.cell? ⟨bb, ob + i, none⟩ = some (.int .i64 y)) ((refine KP.out _ ?_; repeat (first | (with_reducible exact Chg.refl _ _) | (with_reducible refine chg_drew' ?_) | (with_reducible refine Chg.tr ?_ hCP)))) (first | ((with_reducible refine hcc.mono ?_); rintro e9 wP ⟨rfl, hCP⟩))
                      all_goals
                        rename_i hHd
                        have hCP' := hHd.1
                        clear hHd
                        replace d0 := hCP'.cell d0 id
                        replace d1 := hCP'.cell d1 id
                        replace d2 := hCP'.cell d2 id
                        by_cases hex : ex = 0
                        · subst hex
                          have hnx : frE (mixP f A.k B.k) ((prL A B N).take (i + 1)) = 0 := by rw [frE_next _ A B N i HLT.out HF.out, HP.out]
                          have HNX := Lib.hid hnx
                          have HCP := Lib.hid hCP'
                          have hkw : IntKind.i64.wrap ((i : Int) + 1) = (i : Int) + 1 := HKW.out
                          by_cases h0 : mtE f A B = 0
                          · obtain ⟨x1, x2, e1, e2, e3⟩ := HM.out.1 h0
                            obtain ⟨ap, cp, rfl⟩ := own_name e2
                            obtain ⟨aq, cq, rfl⟩ := own_name e3
                            simp only [Value.agg.injEq, Array.mk.injEq, List.cons.injEq, Value.int.injEq, Value.slice.injEq, and_true, true_and] at e1
                            obtain ⟨rfl, ⟨rfl, rfl, rfl⟩, rfl, hn2', rfl⟩ := e1
                            have hvl : (vaL (mixP f A.k B.k) (prL A B N)).length = N := by simp [vaL, prL]
                            rw [hvl] at hn2'
                            replace hn2' := hn2'.symm
                            subst hn2'
                            have hiv : i < (vaL (mixP f A.k B.k) (prL A B N)).length := by rw [hvl]; exact HLT.out
                            obtain ⟨bv, ov, cv, ev, hv⟩ := (e3.fr (HC56.out.tr HCP.out)).ls.at hiv
                            have hvx : (vaL (mixP f A.k B.k) (prL A B N))[i] = vx := by
                              have h9 := vaL_at (mixP f A.k B.k) A B N i HLT.out
                              rw [List.getElem?_eq_getElem hiv, HP.out] at h9
                              exact Option.some.inj h9
                            rw [hvx] at hv
                            injection ev with ev ev2 ev3
                            subst ev
                            clear ev2 ev3
                            have hi0 : (0 : Int) ≤ (i : Int) := by omega
                            have hi1 : (i : Int) < (N : Int) := by have := HLT.out; omega
                            have hi2 : decide ((N : Int) ≤ (i : Int)) = false := decide_eq_false (by omega)
                            have hvv : (vx != vx) = false := by simp
                            have eb : (mtE f A B == 0) = true := beq_iff_eq.2 h0
                            clear h0 hnx hCP' e2 e3 hvl hiv hvx hcc hx hy a0 a1 a2 b0 b1 b2 hCP egf
                            go_wp2
                            go_roundw
                            case rel => exact ⟨i + 1, HLT.out, congrArg (Value.int IntKind.i64) (Int.natCast_succ i).symm, HCR.out.tr HCP.out, HNX.out⟩
                            case measure => exact fit_meas i _ HLT.out
                          · have eb : (mtE f A B == 0) = false := beq_eq_false_iff_ne.2 h0
                            clear h0 hnx hCP' hcc hx hy a0 a1 a2 b0 b1 b2 hCP egf
                            go_wp2
                            go_roundw
                            case rel => exact ⟨i + 1, HLT.out, congrArg (Value.int IntKind.i64) (Int.natCast_succ i).symm, HCR.out.tr HCP.out, HNX.out⟩
                            case measure => exact fit_meas i _ HLT.out
                        · have hmt : mtE f A B = ex := by
                            have h9 := frE_next (mixP f A.k B.k) A B N i HLT.out HF.out
                            rw [HP.out] at h9
                            rw [HRE.out, frE_all _ A B N (i + 1) (by rw [h9]; exact hex), h9]
                          obtain ⟨rfl, rfl⟩ := HM.out.2 (by rw [hmt]; exact hex)
                          have eb : (ex == 0) = false := beq_eq_false_iff_ne.2 hex
                          have eb2 : (ex != 0) = true := bne_iff_ne.2 hex
                          have eb3 : (mtE f A B == ex) = true := by rw [hmt]; exact beq_self_eq_true ex
                          have HCP := Lib.hid hCP'
                          clear hex hmt hCP' hcc hx hy a0 a1 a2 b0 b1 b2 hCP egf
                          go_wp2
                          go_ret
                          exact ⟨rfl, HC.out.tr HCP.out⟩
                  · have t1 : ((A.s.length : Int) == 0) = false := by rw [beq_eq_false_iff_ne]; have := List.length_pos_iff.2 hsa; omega
                    rcases hkc with ⟨hsb, rfl⟩ | ⟨hsb, rfl⟩
                    · have t2 : ((B.s.length : Int) == 0) = true := by rw [hsb]; rfl
                      rw [Nat.add_zero] at hy
                      have hk2 : 0 < B.e.length := hk
                      clear hk0 hk1
                      clear hsa hsb
                      have KP := Lib.hid (show ∀ w', Chg (fun _ => False) wr w' → (Chg (fun _ => False) wr w' ∧ w'.cell? ⟨W.heap.size, 2, none⟩ = some (.slice (some ⟨ba, oa, none⟩) A.e.length ce) ∧ w'.cell? ⟨W.heap.size + 1, 2, none⟩ = some (.slice (some ⟨bb, ob, none⟩) B.e.length cf) ∧ w'.cell? ⟨ba, oa + i, none⟩ = some (.int .i64 x) ∧ w'.cell? ⟨bb, ob, none⟩ = some (.int .i64 y)) from fun w' h => ⟨h, h.cell a2 id, h.cell b2 id, h.cell hx id, h.cell hy id⟩)
                      go_wp2
                      go_region_held3 (fun w' => Chg (fun _ => False) wr w' ∧ w'.cell? ⟨W.heap.size, 2, none⟩ = some (.slice (some ⟨ba, oa, none⟩) A.e.length ce) ∧ w'.cell? ⟨W.heap.size + 1, 2, none⟩ = some (.slice (some ⟨bb, ob, none⟩) B.e.length cf) ∧ w'.cell? ⟨ba, oa + i, none⟩ = some (.int .i64 x) ∧ w'.cell? ⟨bb, ob, none⟩ = some (.int .i64 y)) ((refine KP.out _ ?_; repeat (first | (with_reducible exact Chg.refl _ _) | (with_reducible refine chg_drew' ?_) | (with_reducible refine Chg.tr ?_ hCP)))) (first | ((with_reducible refine hcc.mono ?_); rintro e9 wP ⟨rfl, hCP⟩))
                      all_goals
                        rename_i hHd
                        have hCP' := hHd.1
                        clear hHd
                        replace d0 := hCP'.cell d0 id
                        replace d1 := hCP'.cell d1 id
                        replace d2 := hCP'.cell d2 id
                        by_cases hex : ex = 0
                        · subst hex
                          have hnx : frE (mixP f A.k B.k) ((prL A B N).take (i + 1)) = 0 := by rw [frE_next _ A B N i HLT.out HF.out, HP.out]
                          have HNX := Lib.hid hnx
                          have HCP := Lib.hid hCP'
                          have hkw : IntKind.i64.wrap ((i : Int) + 1) = (i : Int) + 1 := HKW.out
                          by_cases h0 : mtE f A B = 0
                          · obtain ⟨x1, x2, e1, e2, e3⟩ := HM.out.1 h0
                            obtain ⟨ap, cp, rfl⟩ := own_name e2
                            obtain ⟨aq, cq, rfl⟩ := own_name e3
                            simp only [Value.agg.injEq, Array.mk.injEq, List.cons.injEq, Value.int.injEq, Value.slice.injEq, and_true, true_and] at e1
                            obtain ⟨rfl, ⟨rfl, rfl, rfl⟩, rfl, hn2', rfl⟩ := e1
                            have hvl : (vaL (mixP f A.k B.k) (prL A B N)).length = N := by simp [vaL, prL]
                            rw [hvl] at hn2'
                            replace hn2' := hn2'.symm
                            subst hn2'
                            have hiv : i < (vaL (mixP f A.k B.k) (prL A B N)).length := by rw [hvl]; exact HLT.out
                            obtain ⟨bv, ov, cv, ev, hv⟩ := (e3.fr (HC56.out.tr HCP.out)).ls.at hiv
                            have hvx : (vaL (mixP f A.k B.k) (prL A B N))[i] = vx := by
                              have h9 := vaL_at (mixP f A.k B.k) A B N i HLT.out
                              rw [List.getElem?_eq_getElem hiv, HP.out] at h9
                              exact Option.some.inj h9
                            rw [hvx] at hv
                            injection ev with ev ev2 ev3
                            subst ev
                            clear ev2 ev3
                            have hi0 : (0 : Int) ≤ (i : Int) := by omega
                            have hi1 : (i : Int) < (N : Int) := by have := HLT.out; omega
                            have hi2 : decide ((N : Int) ≤ (i : Int)) = false := decide_eq_false (by omega)
                            have hvv : (vx != vx) = false := by simp
                            have eb : (mtE f A B == 0) = true := beq_iff_eq.2 h0
                            clear h0 hnx hCP' e2 e3 hvl hiv hvx hcc hx hy a0 a1 a2 b0 b1 b2 hCP egf
                            go_wp2
                            go_roundw
                            case rel => exact ⟨i + 1, HLT.out, congrArg (Value.int IntKind.i64) (Int.natCast_succ i).symm, HCR.out.tr HCP.out, HNX.out⟩
                            case measure => exact fit_meas i _ HLT.out
                          · have eb : (mtE f A B == 0) = false := beq_eq_false_iff_ne.2 h0
                            clear h0 hnx hCP' hcc hx hy a0 a1 a2 b0 b1 b2 hCP egf
                            go_wp2
                            go_roundw
                            case rel => exact ⟨i + 1, HLT.out, congrArg (Value.int IntKind.i64) (Int.natCast_succ i).symm, HCR.out.tr HCP.out, HNX.out⟩
                            case measure => exact fit_meas i _ HLT.out
                        · have hmt : mtE f A B = ex := by
                            have h9 := frE_next (mixP f A.k B.k) A B N i HLT.out HF.out
                            rw [HP.out] at h9
                            rw [HRE.out, frE_all _ A B N (i + 1) (by rw [h9]; exact hex), h9]
                          obtain ⟨rfl, rfl⟩ := HM.out.2 (by rw [hmt]; exact hex)
                          have eb : (ex == 0) = false := beq_eq_false_iff_ne.2 hex
                          have eb2 : (ex != 0) = true := bne_iff_ne.2 hex
                          have eb3 : (mtE f A B == ex) = true := by rw [hmt]; exact beq_self_eq_true ex
                          have HCP := Lib.hid hCP'
                          clear hex hmt hCP' hcc hx hy a0 a1 a2 b0 b1 b2 hCP egf
                          go_wp2
                          go_ret
                          exact ⟨rfl, HC.out.tr HCP.out⟩
                    · have t2 : ((B.s.length : Int) == 0) = false := by rw [beq_eq_false_iff_ne]; have := List.length_pos_iff.2 hsb; omega
                      clear hsa hsb
                      have KP := Lib.hid (show ∀ w', Chg (fun _ => False) wr w' → (Chg (fun _ => False) wr w' ∧ w'.cell? ⟨W.heap.size, 2, none⟩ = some (.slice (some ⟨ba, oa, none⟩) A.e.length ce) ∧ w'.cell? ⟨W.heap.size + 1, 2, none⟩ = some (.slice (some ⟨bb, ob, none⟩) B.e.length cf) ∧ w'.cell? ⟨ba, oa + i, none⟩ = some (.int .i64 x) ∧ w'.cell? ⟨bb, ob + i, none⟩ = some (.int .i64 y)) from fun w' h => ⟨h, h.cell a2 id, h.cell b2 id, h.cell hx id, h.cell hy id⟩)
                      go_wp2
                      go_region_held3 (fun w' => Chg (fun _ => False) wr w' ∧ w'.cell? ⟨W.heap.size, 2, none⟩ = some (.slice (some ⟨ba, oa, none⟩) A.e.length ce) ∧ w'.cell? ⟨W.heap.size + 1, 2, none⟩ = some (.slice (some ⟨bb, ob, none⟩) B.e.length cf) ∧ w'.cell? ⟨ba, oa + i, none⟩ = some (.int .i64 x) ∧ w'.cell? ⟨bb, ob + i, none⟩ = some (.int .i64 y)) ((refine KP.out _ ?_; repeat (first | (with_reducible exact Chg.refl _ _) | (with_reducible refine chg_drew' ?_) | (with_reducible refine Chg.tr ?_ hCP)))) (first | ((with_reducible refine hcc.mono ?_); rintro e9 wP ⟨rfl, hCP⟩))
                      all_goals
                        rename_i hHd
                        have hCP' := hHd.1
                        clear hHd
                        replace d0 := hCP'.cell d0 id
                        replace d1 := hCP'.cell d1 id
                        replace d2 := hCP'.cell d2 id
                        by_cases hex : ex = 0
                        · subst hex
                          have hnx : frE (mixP f A.k B.k) ((prL A B N).take (i + 1)) = 0 := by rw [frE_next _ A B N i HLT.out HF.out, HP.out]
                          have HNX := Lib.hid hnx
                          have HCP := Lib.hid hCP'
                          have hkw : IntKind.i64.wrap ((i : Int) + 1) = (i : Int) + 1 := HKW.out
                          by_cases h0 : mtE f A B = 0
                          · obtain ⟨x1, x2, e1, e2, e3⟩ := HM.out.1 h0
                            obtain ⟨ap, cp, rfl⟩ := own_name e2
                            obtain ⟨aq, cq, rfl⟩ := own_name e3
                            simp only [Value.agg.injEq, Array.mk.injEq, List.cons.injEq, Value.int.injEq, Value.slice.injEq, and_true, true_and] at e1
                            obtain ⟨rfl, ⟨rfl, rfl, rfl⟩, rfl, hn2', rfl⟩ := e1
                            have hvl : (vaL (mixP f A.k B.k) (prL A B N)).length = N := by simp [vaL, prL]
                            rw [hvl] at hn2'
                            replace hn2' := hn2'.symm
                            subst hn2'
                            have hiv : i < (vaL (mixP f A.k B.k) (prL A B N)).length := by rw [hvl]; exact HLT.out
                            obtain ⟨bv, ov, cv, ev, hv⟩ := (e3.fr (HC56.out.tr HCP.out)).ls.at hiv
                            have hvx : (vaL (mixP f A.k B.k) (prL A B N))[i] = vx := by
                              have h9 := vaL_at (mixP f A.k B.k) A B N i HLT.out
                              rw [List.getElem?_eq_getElem hiv, HP.out] at h9
                              exact Option.some.inj h9
                            rw [hvx] at hv
                            injection ev with ev ev2 ev3
                            subst ev
                            clear ev2 ev3
                            have hi0 : (0 : Int) ≤ (i : Int) := by omega
                            have hi1 : (i : Int) < (N : Int) := by have := HLT.out; omega
                            have hi2 : decide ((N : Int) ≤ (i : Int)) = false := decide_eq_false (by omega)
                            have hvv : (vx != vx) = false := by simp
                            have eb : (mtE f A B == 0) = true := beq_iff_eq.2 h0
                            clear h0 hnx hCP' e2 e3 hvl hiv hvx hcc hx hy a0 a1 a2 b0 b1 b2 hCP egf
                            go_wp2
                            go_roundw
                            case rel => exact ⟨i + 1, HLT.out, congrArg (Value.int IntKind.i64) (Int.natCast_succ i).symm, HCR.out.tr HCP.out, HNX.out⟩
                            case measure => exact fit_meas i _ HLT.out
                          · have eb : (mtE f A B == 0) = false := beq_eq_false_iff_ne.2 h0
                            clear h0 hnx hCP' hcc hx hy a0 a1 a2 b0 b1 b2 hCP egf
                            go_wp2
                            go_roundw
                            case rel => exact ⟨i + 1, HLT.out, congrArg (Value.int IntKind.i64) (Int.natCast_succ i).symm, HCR.out.tr HCP.out, HNX.out⟩
                            case measure => exact fit_meas i _ HLT.out
                        · have hmt : mtE f A B = ex := by
                            have h9 := frE_next (mixP f A.k B.k) A B N i HLT.out HF.out
                            rw [HP.out] at h9
                            rw [HRE.out, frE_all _ A B N (i + 1) (by rw [h9]; exact hex), h9]
                          obtain ⟨rfl, rfl⟩ := HM.out.2 (by rw [hmt]; exact hex)
                          have eb : (ex == 0) = false := beq_eq_false_iff_ne.2 hex
                          have eb2 : (ex != 0) = true := bne_iff_ne.2 hex
                          have eb3 : (mtE f A B == ex) = true := by rw [hmt]; exact beq_self_eq_true ex
                          have HCP := Lib.hid hCP'
                          clear hex hmt hCP' hcc hx hy a0 a1 a2 b0 b1 b2 hCP egf
                          go_wp2
                          go_ret
                          exact ⟨rfl, HC.out.tr HCP.out⟩
                · obtain rfl : i = N := by omega
                  have hd1 : decide ((i : Int) < (i : Int)) = false := decide_eq_false (by omega)
                  have h0 : mtE f A B = 0 := by
                    rw [HRE.out, ← List.take_of_length_le (l := prL A B i) (i := i) (by simp [prL])]
                    exact hfr
                  obtain ⟨x1, x2, e1, e2, e3⟩ := HM.out.1 h0
                  obtain ⟨ap, cp, rfl⟩ := own_name e2
                  obtain ⟨aq, cq, rfl⟩ := own_name e3
                  simp only [Value.agg.injEq, Array.mk.injEq, List.cons.injEq, Value.int.injEq, Value.slice.injEq, and_true, true_and] at e1
                  obtain ⟨rfl, ⟨rfl, rfl, rfl⟩, rfl, rfl, rfl⟩ := e1
                  have hlen : (((vaL (mixP f A.k B.k) (prL A B i)).length : Int) == (i : Int)) = true := by
                    rw [beq_iff_eq]
                    simp [vaL, prL]
                  have hE : (mtE f A B == 0) = true := by rw [h0]; rfl
                  have hsh := r11shapes_any _ _ (togL A.s B.s) (togL A.s B.s) wr ((e2.fr HC56.out).ls) HOT.out
                  unfold GaveBo at hsh
                  rw [show decide (togL A.s B.s = togL A.s B.s) = true from decide_eq_true rfl] at hsh
                  clear e2 e3 h0 hfr hCr hlt
                  go_wp2_with fail
                  refine (hsh (by have := HGA.out.2; have := HGB.out.2; unfold togL; split <;> (try split) <;> first | omega | simp)).mono ?_
                  clear hsh
                  rintro e9 wS ⟨rfl, hCS⟩
                  replace d0 := hCS.cell d0 id
                  replace d1 := hCS.cell d1 id
                  replace d2 := hCS.cell d2 id
                  go_wp2
                  go_ret
                  exact ⟨rfl, HC.out.tr hCS⟩
            · have hne := HMT.out.2 (fun h => hkz h.2.2.2)
              have ek : (knE f A.k B.k == 0) = false := beq_eq_false_iff_ne.2 hkz
              have ek2 : (knE f A.k B.k != 0) = true := bne_iff_ne.2 hkz
              subst hez
              clear hf0 hfn hC9 hkz
              obtain ⟨rfl, rfl⟩ := HM.out.2 hne
              have eb : (mtE f A B == 0) = false := beq_eq_false_iff_ne.2 hne
              have eb2 : (mtE f A B != 0) = true := bne_iff_ne.2 hne
              clear hne
              go_wp2
              go_ret
              exact ⟨rfl, HC.out⟩
          · have hne := HMT.out.2 (fun h => hez h.2.2.1)
            have ek : (et == 0) = false := beq_eq_false_iff_ne.2 hez
            have ek2 : (et != 0) = true := bne_iff_ne.2 hez
            clear hf0 hfn hC9 hez
            obtain ⟨rfl, rfl⟩ := HM.out.2 hne
            have eb : (mtE f A B == 0) = false := beq_eq_false_iff_ne.2 hne
            have eb2 : (mtE f A B != 0) = true := bne_iff_ne.2 hne
            clear hne
            go_wp2
            go_ret
            exact ⟨rfl, HC.out⟩
end Go.Proofs.Ytachmmicdjmjkaa
