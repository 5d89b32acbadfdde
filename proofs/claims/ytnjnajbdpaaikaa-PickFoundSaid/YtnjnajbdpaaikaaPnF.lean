/- PickFound. -/
import Derived.Test.YtnjnajbdpaaikaaPnG
import Derived.Test.YtnjnajbdpaaikaaPkJ
namespace Go.Proofs.Ytnjnajbdpaaikaa
open Go.RowKit Go.Shelf

/-- What is found of an element: its place P (n: none), and whether it is there. -/
def Fnd (A : Ar) (k x : Int) (P : Nat) (fl : Int) : Prop := ((fl = 1 ∧ A.k = k ∧ A.e[P]? = some x) ∨ (fl = 0 ∧ P = A.e.length)) ∧ (A.k = k → ∀ t, t < P → ∀ y, A.e[t]? = some y → y ≠ x)
theorem fnd_of (A : Ar) (k x : Int) : ∃ P fl, Fnd A k x P fl ∧ ioV (plF A k) A.e.length x = (P : Int) + 1 ∧ min 1 (plF A k x) = fl := by
  by_cases hk : A.k = k
  · rw [plF_eq hk]
    by_cases hx : x ∈ A.e
    · have h1 := List.findIdx_lt_length_of_exists (p := (· == x)) (xs := A.e) ⟨x, hx, by simp⟩
      have h2 := List.findIdx_getElem (w := h1)
      have hf : fpN A.e x = (A.e.findIdx (· == x) : Int) + 1 := if_pos hx
      refine ⟨A.e.findIdx (· == x), 1, ⟨.inl ⟨rfl, hk, ?_⟩, fun _ t ht y hy e => ?_⟩, ?_, ?_⟩
      · rw [List.getElem?_eq_getElem h1]
        exact congrArg some (by simpa using h2)
      · obtain ⟨h3, h4⟩ := List.getElem?_eq_some_iff.1 hy
        have h5 := List.not_of_lt_findIdx ht
        rw [h4, e] at h5
        simp at h5
      · unfold ioV
        rw [hf, if_pos (by omega)]
      · rw [hf]
        omega
    · have hf : fpN A.e x = 0 := if_neg hx
      refine ⟨A.e.length, 0, ⟨.inr ⟨rfl, rfl⟩, fun _ t ht y hy e => hx (by rw [← e]; exact List.mem_of_getElem? hy)⟩, ?_, ?_⟩
      · unfold ioV
        rw [hf, if_neg (by omega)]
      · rw [hf]
        rfl
  · rw [plF_ne hk]
    exact ⟨A.e.length, 0, ⟨.inr ⟨rfl, rfl⟩, fun h => absurd h hk⟩, rfl, rfl⟩
theorem io_bad {A B : Ar} (h : ¬ (Vec A ∧ chkB B = true)) : (ioE A B = 110 ∧ meE B A = 110) ∨ (ioE A B = 3 ∧ meE B A = 0) := by
  unfold ioE meE vecE
  cases hB : chkB B with
  | false => exact .inl ⟨rfl, rfl⟩
  | true =>
    cases hA : chkB A with
    | false => exact .inl ⟨rfl, rfl⟩
    | true =>
      rw [if_pos rfl, if_pos rfl, if_neg (fun h1 => h ⟨⟨hA, h1⟩, hB⟩)]
      exact .inr ⟨rfl, rfl⟩
theorem shp_true (u v : Value) (s : List Int) (w : World) (hS : Ls w u s) (hT : Ls w v s) (hl : s.length ≤ 4096) : Calls Try.prog 43 #[u, v] w (GaveBo w true) :=
  (r11shapes_any u v s s w hS hT (by omega)).mono fun e w' h => by simpa using h
theorem BoxA.lss {w : World} {x : Nat} {A : Ar} (h : BoxA w x A) : ∃ sa cs ae ce, (w.cell? ⟨x, 0, none⟩ = some (.int .i64 A.k) ∧ w.cell? ⟨x, 1, none⟩ = some (.slice sa A.s.length cs) ∧ w.cell? ⟨x, 2, none⟩ = some (.slice ae A.e.length ce)) ∧ Ls w (.slice sa A.s.length cs) A.s ∧ Ls w (.slice ae A.e.length ce) A.e := by
  obtain ⟨sa, cs, ae, ce, hc, vs, ve, e, h1, h2⟩ := h
  injection e with e
  injection e with e
  injection e with _ e
  injection e with e3 e
  injection e with e4 _
  rw [← e3] at h1
  rw [← e4] at h2
  exact ⟨sa, cs, ae, ce, hc, h1, h2⟩
theorem io_good {A B : Ar} (hA : Vec A) (hB : chkB B = true) : ∃ AT IN : List Int, (ioE A B = 0 ∧ ioA A B = ⟨1, B.s, AT⟩ ∧ meE B A = 0 ∧ meA B A = ⟨1, B.s, IN⟩) ∧ (AT.length = B.e.length ∧ IN.length = B.e.length) ∧ ∀ i (h : i < B.e.length), ∃ P fl, Fnd A B.k B.e[i] P fl ∧ AT[i]? = some ((P : Int) + 1) ∧ IN[i]? = some fl := by
  have h1 : ioE A B = 0 := by unfold ioE; rw [if_pos hB]; exact hA.vecE
  have h2 : meE B A = 0 := by unfold meE; rw [hB, hA.chk]; rfl
  refine ⟨B.e.map (ioV (plF A B.k) A.e.length), B.e.map (fun x => min 1 (plF A B.k x)), ⟨h1, if_pos h1, h2, if_pos h2⟩, by simp, fun i hi => ?_⟩
  obtain ⟨P, fl, hf, e1, e2⟩ := fnd_of A B.k B.e[i]
  exact ⟨P, fl, hf, by simp [hi, e1], by simp [hi, e2]⟩
set_option maxRecDepth 100000 in
set_option maxHeartbeats 4000000 in
theorem pickFound_walk (v : Value) (A : Ar) (v2 : Value) (B : Ar) (W : World) (h : OkArr W v A) (h2 : OkArr W v2 B) : Calls Try.prog 12 #[v, v2] W (True_ W) := by
  have hA := h.1
  have hB := h2.1
  have hIA : ∀ x ∈ A.e, In64 x := h.2.2.2
  have hIB : ∀ x ∈ B.e, In64 x := h2.2.2.2
  have HIA := Lib.hid (And.intro hIA hIB)
  clear h h2 hIA hIB
  have hal := alive_any
  obtain ⟨vt, ve, hv, ht, he⟩ := id hA
  subst hv
  obtain ⟨ta, ct, rfl, _⟩ := ht.form
  obtain ⟨ae, ce, rfl, _⟩ := he.form
  obtain ⟨vt2, ve2, hv2, ht2, he2⟩ := id hB
  subst hv2
  obtain ⟨ta2, ct2, rfl, _⟩ := ht2.form
  obtain ⟨ae2, ce2, rfl, _⟩ := he2.form
  have hb := BoxA.new (A := A) 25 hA
  have hK1 := (Chg.refl (fun _ => False) W).alloc (.cells #[.int .i64 A.k, .slice ta A.s.length ct, .slice ae A.e.length ce] 25)
  have hbb := BoxA.new (A := B) 25 (hB.fr hK1)
  rw [World.size_alloc] at hbb
  have hK2 := (Chg.refl (fun _ => False) (W.alloc (.cells #[.int .i64 A.k, .slice ta A.s.length ct, .slice ae A.e.length ce] 25))).alloc (.cells #[.int .i64 B.k, .slice ta2 B.s.length ct2, .slice ae2 B.e.length ce2] 25)
  replace hb := hb.fr hK2
  have HC := Lib.hid (hK1.tr hK2)
  clear ht he ht2 he2 hK1 hK2
  go_enter Try.func12, Try.ntmps12
  go_wp2_with fail
  refine (hal _).mono ?_
  clear hal
  rintro e9 w1 ⟨rfl, hC1⟩
  replace hb := hb.fr hC1
  replace hbb := hbb.fr hC1
  replace HC := Lib.hid (HC.out.tr hC1)
  clear hC1 hA hB
  obtain ⟨x0, hx0⟩ : ∃ x3, W.heap.size = x3 := ⟨_, rfl⟩
  rw [hx0] at hb hbb
  obtain ⟨sa, cs, sb, cb, ⟨y0, y1, y2⟩, hb1⟩ := id hb
  obtain ⟨sa2, cs2, sb2, cb2, ⟨z0, z1, z2⟩, hb2⟩ := id hbb
  have l1 := new_cell w1 #[.int .i64 A.k, .slice sa A.s.length cs, .slice sb A.e.length cb, .int .i64 B.k, .slice sa2 B.s.length cs2, .slice sb2 B.e.length cb2] 25 (i := 1) rfl
  have l2 := new_cell w1 #[.int .i64 A.k, .slice sa A.s.length cs, .slice sb A.e.length cb, .int .i64 B.k, .slice sa2 B.s.length cs2, .slice sb2 B.e.length cb2] 25 (i := 2) rfl
  have l4 := new_cell w1 #[.int .i64 A.k, .slice sa A.s.length cs, .slice sb A.e.length cb, .int .i64 B.k, .slice sa2 B.s.length cs2, .slice sb2 B.e.length cb2] 25 (i := 4) rfl
  have l5 := new_cell w1 #[.int .i64 A.k, .slice sa A.s.length cs, .slice sb A.e.length cb, .int .i64 B.k, .slice sa2 B.s.length cs2, .slice sb2 B.e.length cb2] 25 (i := 5) rfl
  have hCl := (Chg.refl (fun _ => False) w1).alloc (.cells #[.int .i64 A.k, .slice sa A.s.length cs, .slice sb A.e.length cb, .int .i64 B.k, .slice sa2 B.s.length cs2, .slice sb2 B.e.length cb2] 25)
  obtain ⟨g, hg⟩ : ∃ g, (grt15 A || grt15 B) = g := ⟨_, rfl⟩
  have hg1 := great15_two sa sb sa2 sb2 cs cb cs2 cb2 _ A B _ ⟨⟨l1, l2⟩, l4, l5⟩ g hg
  replace HC := Lib.hid (HC.out.tr hCl)
  replace hb := hb.fr hCl
  replace hbb := hbb.fr hCl
  clear l1 l2 l4 l5 hCl
  cases g with
  | true =>
    clear hb hbb hg
    go_wp2_with fail
    refine hg1.mono ?_
    clear hg1
    rintro e9 w2 ⟨rfl, rfl⟩
    go_wp2
    go_ret
    exact ⟨rfl, HC.out⟩
  | false =>
    have hg2 := hg
    rw [Bool.or_eq_false_iff] at hg2
    have HLE := Lib.hid (And.intro (grt15_not hg2.1) (grt15_not hg2.2))
    have HI := Lib.hid (show ArIn A ∧ ArIn B from ⟨⟨by have := HLE.out; omega, HIA.out.1⟩, by have := HLE.out; omega, HIA.out.2⟩)
    clear hg2
    go_wp2_with fail
    refine hg1.mono ?_
    clear hg1 y0 y1 y2 hb1 z0 z1 z2 hb2 hg hx0
    rintro e9 w3 ⟨rfl, rfl⟩
    generalize w1.alloc (.cells #[.int .i64 A.k, .slice sa A.s.length cs, .slice sb A.e.length cb, .int .i64 B.k, .slice sa2 B.s.length cs2, .slice sb2 B.e.length cb2] 25) = w3 at *
    obtain ⟨sa, cs, sb, cb, ⟨y0, y1, y2⟩, hb1⟩ := id hb
    obtain ⟨sa2, cs2, sb2, cb2, ⟨z0, z1, z2⟩, hb2⟩ := id hbb
    by_cases hv : Vec A ∧ chkB B = true
    · obtain ⟨AT, IN, ⟨ei, ea, em, eb⟩, ⟨hla, hln⟩, hfd⟩ := io_good hv.1 hv.2
      have h1 := indexOf_any _ _ A B _ hb1 hb2 HI.out.1 HI.out.2
      rw [ei, ea] at h1
      have HME := Lib.hid (And.intro em eb)
      have HFD := Lib.hid (And.intro hla (And.intro hln hfd))
      have HSL := Lib.hid (show B.s.length ≤ 4096 by have := HLE.out; omega)
      clear ei ea em eb hla hln hfd hv
      go_wp2_with fail
      refine h1.mono ?_
      clear h1 y0 y1 y2 hb1 z0 z1 z2 hb2
      rintro e9 w4 ⟨v9, rfl, ho9, hC9⟩
      obtain ⟨a9, c9, b9, d9, rfl, _, _⟩ := ara_new ho9
      have hba := BoxA.new (A := ⟨1, B.s, AT⟩) 25 ho9.ara
      have hC8 := hC9.alloc (.cells #[.int .i64 1, .slice a9 B.s.length c9, .slice b9 AT.length d9] 25)
      replace HC := Lib.hid (HC.out.tr hC8)
      obtain ⟨xa, hx⟩ : ∃ x, w4.heap.size = x := ⟨_, rfl⟩
      rw [hx] at hba
      clear hC9 ho9
      replace hb := hb.fr hC8
      replace hbb := hbb.fr hC8
      clear hC8
      obtain ⟨sa, cs, sb, cb, ⟨y0, y1, y2⟩, hb1⟩ := id hb
      obtain ⟨sa2, cs2, sb2, cb2, ⟨z0, z1, z2⟩, hb2⟩ := id hbb
      have h1 := member_any _ _ B A _ hb2 hb1 HI.out.2 HI.out.1
      rw [HME.out.1, HME.out.2] at h1
      go_wp2_with fail
      clear hx
      refine h1.mono ?_
      clear h1 y0 y1 y2 hb1 z0 z1 z2 hb2
      rintro e9 w5 ⟨v9, rfl, ho9, hC9⟩
      obtain ⟨a9, c9, b9, d9, rfl, _, _⟩ := ara_new ho9
      have hbn := BoxA.new (A := ⟨1, B.s, IN⟩) 25 ho9.ara
      have hC8 := hC9.alloc (.cells #[.int .i64 1, .slice a9 B.s.length c9, .slice b9 IN.length d9] 25)
      replace HC := Lib.hid (HC.out.tr hC8)
      obtain ⟨xn, hx⟩ : ∃ x, w5.heap.size = x := ⟨_, rfl⟩
      rw [hx] at hbn
      clear hC9 ho9
      replace hb := hb.fr hC8
      replace hbb := hbb.fr hC8
      replace hba := hba.fr hC8
      clear hC8
      obtain ⟨ta1, tc1, tb1, td1, ⟨p0, p1, p2⟩, lp1, _⟩ := hba.lss
      obtain ⟨ta2, tc2, tb2, td2, ⟨z0, z1, z2⟩, lz1, _⟩ := hbb.lss
      simp only at p0 p1 p2 lp1
      have h1 := shp_true _ _ _ _ lp1 lz1 HSL.out
      go_wp2_with fail
      clear hx
      refine h1.mono ?_
      clear h1 p0 p1 p2 lp1 z0 z1 z2 lz1
      rintro e9 w6 ⟨rfl, hC6⟩
      replace hb := hb.fr hC6
      replace hbb := hbb.fr hC6
      replace hba := hba.fr hC6
      replace hbn := hbn.fr hC6
      replace HC := Lib.hid (HC.out.tr hC6)
      clear hC6
      obtain ⟨na1, nc1, nb1, nd1, ⟨q0, q1, q2⟩, lq1, _⟩ := hbn.lss
      obtain ⟨ta2, tc2, tb2, td2, ⟨z0, z1, z2⟩, lz1, _⟩ := hbb.lss
      simp only at q0 q1 q2 lq1
      have h1 := shp_true _ _ _ _ lq1 lz1 HSL.out
      go_wp2_with fail
      refine h1.mono ?_
      clear h1 q0 q1 q2 lq1 z0 z1 z2 lz1
      rintro e9 q7 ⟨rfl, hC6⟩
      replace hb := hb.fr hC6
      replace hbb := hbb.fr hC6
      replace hba := hba.fr hC6
      replace hbn := hbn.fr hC6
      replace HC := Lib.hid (HC.out.tr hC6)
      clear hC6
      obtain ⟨n, hn⟩ : ∃ n, A.e.length = n := ⟨_, rfl⟩
      obtain ⟨m, hm⟩ : ∃ m, B.e.length = m := ⟨_, rfl⟩
      obtain ⟨_, _, ab, ac, ⟨y0, _, y2⟩, _, lA⟩ := hb.lss
      obtain ⟨_, _, bb, bc, ⟨z0, _, z2⟩, _, lB⟩ := hbb.lss
      obtain ⟨_, _, tb, tc, ⟨_, _, p2⟩, _, lT⟩ := hba.lss
      obtain ⟨_, _, nb, nc, ⟨_, _, q2⟩, _, lN⟩ := hbn.lss
      simp only at p2 q2 lT lN
      rw [HFD.out.1] at p2 lT
      rw [HFD.out.2.1] at q2 lN
      rw [hn] at y2 lA
      rw [hm] at z2 p2 q2 lB lT lN
      have HCE := Lib.hid (And.intro (And.intro y0 y2) (And.intro (And.intro z0 z2) (And.intro p2 q2)))
      have HLS := Lib.hid (And.intro (And.intro lA lB) (And.intro lT lN))
      have HNM := Lib.hid (show A.e.length = n ∧ B.e.length = m ∧ n ≤ 1500 ∧ m ≤ 1500 from ⟨hn, hm, by have := HLE.out; omega, by have := HLE.out; omega⟩)
      clear hn hm lA lB lT lN hb hbb hba hbn
      go_wp2_with fail
      clear y0 y2 z0 z2 p2 q2
      go_loopw [76] (fun i wr => ∃ j : Nat, j ≤ m ∧ i = .int .i64 j ∧ Chg (fun _ => False) q7 wr) (fun i _ => m - (intOf i).toNat)
      case atStart => exact ⟨0, Nat.zero_le _, rfl, Chg.refl _ _⟩
      case round =>
        obtain ⟨j, hj, rfl, hC⟩ := hrel
        obtain ⟨wo, rfl⟩ : ∃ wo : World, wo = wr := ⟨_, rfl⟩
        have y0 := hC.cell HCE.out.1.1 id
        have y2 := hC.cell HCE.out.1.2 id
        have z0 := hC.cell HCE.out.2.1.1 id
        have z2 := hC.cell HCE.out.2.1.2 id
        have p2 := hC.cell HCE.out.2.2.1 id
        have q2 := hC.cell HCE.out.2.2.2 id
        have HCW := Lib.hid hC
        clear hC
        by_cases hlt : j < m
        · have hlt' : (j : Int) < (m : Int) := by omega
          have HM1 := Lib.hid (show m - (j + 1) < m - j by omega)
          have HJM := Lib.hid hlt
          have hjB : j < B.e.length := by rw [HNM.out.2.1]; exact hlt
          obtain ⟨P, fl, hF, hAt, hIn⟩ := HFD.out.2.2 j hjB
          obtain ⟨x, hxB⟩ : ∃ x, B.e[j] = x := ⟨_, rfl⟩
          rw [hxB] at hF
          have hjT : j < AT.length := by rw [HFD.out.1]; exact hjB
          have hjI : j < IN.length := by rw [HFD.out.2.1]; exact hjB
          obtain ⟨b1, o1, c1, e1, hx1⟩ := HLS.out.2.1.at hjT
          rw [HFD.out.1, HNM.out.2.1] at e1
          injection e1 with e1 _ e3
          subst e1 e3
          obtain ⟨b2, o2, c2, e1, hx2⟩ := HLS.out.2.2.at hjI
          rw [HFD.out.2.1, HNM.out.2.1] at e1
          injection e1 with e1 _ e3
          subst e1 e3
          obtain ⟨b3, o3, c3, e1, hx3⟩ := HLS.out.1.2.at hjB
          rw [HNM.out.2.1] at e1
          injection e1 with e1 _ e3
          subst e1 e3
          rw [List.getElem?_eq_getElem hjT] at hAt
          rw [List.getElem?_eq_getElem hjI] at hIn
          rw [Option.some.inj hAt] at hx1
          rw [Option.some.inj hIn] at hx2
          rw [hxB] at hx3
          have hx1 := HCW.out.cell hx1 id
          have hx2 := HCW.out.cell hx2 id
          have hx3' := hx3
          have hx3 := HCW.out.cell hx3 id
          have HX3 := Lib.hid hx3'
          have HF := Lib.hid hF
          have hPn : P ≤ n := by
            rcases hF.1 with ⟨_, _, h⟩ | ⟨_, h⟩
            · have := (List.getElem?_eq_some_iff.1 h).1
              have := HNM.out.1
              omega
            · have := HNM.out.1
              omega
          have HPN := Lib.hid hPn
          have wj : IntKind.i64.wrap ((j : Int) + 1) = (j : Int) + 1 := IntWalk.i64_in _ (by have := HNM.out.2.2; omega)
          have wn : IntKind.i64.wrap ((n : Int) + 1) = (n : Int) + 1 := IntWalk.i64_in _ (by have := HNM.out.2.2; omega)
          have wP : IntKind.i64.wrap (P : Int) = (P : Int) := IntWalk.i64_in _ (by have := HNM.out.2.2; omega)
          have d1 : decide ((P : Int) + 1 < 1) = false := decide_eq_false (by omega)
          have d2 : decide ((n : Int) + 1 < (P : Int) + 1) = false := decide_eq_false (by omega)
          have d2b : decide ((n : Int) < (P : Int)) = false := decide_eq_false (by omega)
          have d2c : decide (n < P) = false := decide_eq_false (by omega)
          clear hx3' hjB hjT hjI hAt hIn hxB hlt hj hPn
          rcases hF.1 with ⟨rfl, hk, hAP⟩ | ⟨rfl, hPn⟩
          · obtain ⟨hPl, hAx⟩ := List.getElem?_eq_some_iff.1 hAP
            obtain ⟨b4, o4, c4, e1, hx4⟩ := HLS.out.1.1.at hPl
            rw [HNM.out.1] at e1
            injection e1 with e1 _ e3
            subst e1 e3
            rw [hAx] at hx4
            have hx4 := HCW.out.cell hx4 id
            have hPlt : P < n := by rw [HNM.out.1] at hPl; exact hPl
            have HK := Lib.hid hk
            have dk : (A.k != B.k) = false := by simp [hk]
            have dk2 : (A.k == B.k) = true := by simp [hk]
            have d3 : decide ((P : Int) + 1 ≤ (n : Int)) = true := decide_eq_true (by omega)
            have d3c : decide (P < n) = true := decide_eq_true hPlt
            have hP0 : (0 : Int) ≤ (P : Int) := by omega
            have hP1 : (P : Int) < (n : Int) := by omega
            clear hF hk hAP hAx hPl hPlt
            go_wp2_with fail
            go_quiet (fail)
            go_wp2_with fail
            go_quiet (fail)
            go_wp2_with fail
            go_loopw [12] (fun t wr => ∃ k : Nat, k ≤ P ∧ t = .int .i64 k ∧ Chg (fun _ => False) q7 wr) (fun t _ => P - (intOf t).toNat)
            case atStart => exact ⟨0, Nat.zero_le _, rfl, by first | exact (HCW.out.drewN _).drewN _ | exact HCW.out.drewN _ | exact HCW.out.drew.drew⟩
            case round =>
              obtain ⟨k, hk, rfl, hC2⟩ := hrel
              clear y0 y2 z0 z2 p2 q2 hx1 hx2 hx3 hx4
              have y0 := hC2.cell HCE.out.1.1 id
              have y2 := hC2.cell HCE.out.1.2 id
              have z0 := hC2.cell HCE.out.2.1.1 id
              have z2 := hC2.cell HCE.out.2.1.2 id
              have hx3 := hC2.cell HX3.out id
              have HC2 := Lib.hid hC2
              clear hC2
              by_cases hkP : k < P
              · have hkP' : (k : Int) < (P : Int) := by omega
                have hkd : decide (k < P) = true := decide_eq_true hkP
                have HKM := Lib.hid (show P - (k + 1) < P - k by omega)
                have HKP := Lib.hid hkP
                have hkA : k < A.e.length := by have := HPN.out; have := HNM.out.1; omega
                obtain ⟨b5, o5, c5, e1, hx5⟩ := HLS.out.1.1.at hkA
                rw [HNM.out.1] at e1
                (injection e1 with e1 _ e3; injection e1 with e1; injection e1 with e1 e2 _; subst e1 e2 e3)
                obtain ⟨y, hy⟩ : ∃ y, A.e[k] = y := ⟨_, rfl⟩
                have hyx : (y == x) = false := by
                  rw [beq_eq_false_iff_ne]
                  exact HF.out.2 HK.out k hkP y (by rw [List.getElem?_eq_getElem hkA, hy])
                rw [hy] at hx5
                have hx5 := HC2.out.cell hx5 id
                have wk : IntKind.i64.wrap ((k : Int) + 1) = (k : Int) + 1 := IntWalk.i64_in _ (by have := HNM.out.2.2; have := HPN.out; omega)
                have hk0 : (0 : Int) ≤ (k : Int) := by omega
                have hkn : (k : Int) < (n : Int) := by have := HPN.out; omega
                clear hkA hy hkP hk
                go_wp2_with fail
                go_quiet (fail)
                go_wp2
                go_roundw
                case rel => first | exact ⟨k + 1, HKP.out, by go_num, HC2.out.drewN _⟩ | exact ⟨k + 1, HKP.out, by go_num, HC2.out.drew⟩ | (trace_state; fail)
                case measure => exact HKM.out
              · have hkP' : ¬ (k : Int) < (P : Int) := by omega
                have hkd : decide (k < P) = false := decide_eq_false hkP
                clear hkP hk
                go_wp2
                go_roundw
                case rel => first | exact ⟨j + 1, HJM.out, by go_num, HC2.out⟩ | fail
                case measure => exact HM1.out
          · have dP : P = n := by have := HNM.out.1; omega
            have d3 : decide ((P : Int) + 1 ≤ (n : Int)) = false := decide_eq_false (by omega)
            have d3c : decide (P < n) = false := decide_eq_false (by omega)
            have d3d : ¬ (P : Int) < (n : Int) := by omega
            clear hF hPn dP
            by_cases hk : A.k = B.k
            · have HK := Lib.hid hk
              have dk2 : (A.k == B.k) = true := by simp [hk]
              clear hk
              go_wp2_with fail
              go_quiet (fail)
              go_wp2_with fail
              go_quiet (fail)
              go_wp2_with fail
              go_loopw [12] (fun t wr => ∃ k : Nat, k ≤ P ∧ t = .int .i64 k ∧ Chg (fun _ => False) q7 wr) (fun t _ => P - (intOf t).toNat)
              case atStart => exact ⟨0, Nat.zero_le _, rfl, by first | exact (HCW.out.drewN _).drewN _ | exact HCW.out.drewN _ | exact HCW.out.drew.drew⟩
              case round =>
                obtain ⟨k, hk, rfl, hC2⟩ := hrel
                clear y0 y2 z0 z2 p2 q2 hx1 hx2 hx3 d3
                have y0 := hC2.cell HCE.out.1.1 id
                have y2 := hC2.cell HCE.out.1.2 id
                have z0 := hC2.cell HCE.out.2.1.1 id
                have z2 := hC2.cell HCE.out.2.1.2 id
                have hx3 := hC2.cell HX3.out id
                have HC2 := Lib.hid hC2
                clear hC2
                by_cases hkP : k < P
                · have hkP' : (k : Int) < (P : Int) := by omega
                  have hkd : decide (k < P) = true := decide_eq_true hkP
                  have HKM := Lib.hid (show P - (k + 1) < P - k by omega)
                  have HKP := Lib.hid hkP
                  have hkA : k < A.e.length := by have := HPN.out; have := HNM.out.1; omega
                  obtain ⟨b5, o5, c5, e1, hx5⟩ := HLS.out.1.1.at hkA
                  rw [HNM.out.1] at e1
                  (injection e1 with e1 _ e3; subst e1 e3)
                  obtain ⟨y, hy⟩ : ∃ y, A.e[k] = y := ⟨_, rfl⟩
                  have hyx : (y == x) = false := by
                    rw [beq_eq_false_iff_ne]
                    exact HF.out.2 HK.out k hkP y (by rw [List.getElem?_eq_getElem hkA, hy])
                  rw [hy] at hx5
                  have hx5 := HC2.out.cell hx5 id
                  have wk : IntKind.i64.wrap ((k : Int) + 1) = (k : Int) + 1 := IntWalk.i64_in _ (by have := HNM.out.2.2; have := HPN.out; omega)
                  have hk0 : (0 : Int) ≤ (k : Int) := by omega
                  have hkn : (k : Int) < (n : Int) := by have := HPN.out; omega
                  clear hkA hy hkP hk
                  go_wp2_with fail
                  go_quiet (fail)
                  go_wp2
                  go_roundw
                  case rel => first | exact ⟨k + 1, HKP.out, by go_num, HC2.out.drewN _⟩ | exact ⟨k + 1, HKP.out, by go_num, HC2.out.drew⟩ | (trace_state; fail)
                  case measure => exact HKM.out
                · have hkP' : ¬ (k : Int) < (P : Int) := by omega
                  have hkd : decide (k < P) = false := decide_eq_false hkP
                  clear hkP hk
                  go_wp2
                  go_roundw
                  case rel => first | exact ⟨j + 1, HJM.out, by go_num, HC2.out⟩ | fail
                  case measure => exact HM1.out
            · have dk2 : (A.k == B.k) = false := beq_eq_false_iff_ne.2 hk
              clear hk
              go_wp2_with fail
              go_quiet (fail)
              go_wp2_with fail
              go_quiet (fail)
              go_wp2_with fail
              go_loopw [12] (fun t wr => ∃ k : Nat, k ≤ P ∧ t = .int .i64 k ∧ Chg (fun _ => False) q7 wr) (fun t _ => P - (intOf t).toNat)
              case atStart => exact ⟨0, Nat.zero_le _, rfl, by first | exact (HCW.out.drewN _).drewN _ | exact HCW.out.drewN _ | exact HCW.out.drew.drew⟩
              case round =>
                obtain ⟨k, hk, rfl, hC2⟩ := hrel
                clear y0 y2 z0 z2 p2 q2 hx1 hx2 hx3 d3
                have y0 := hC2.cell HCE.out.1.1 id
                have y2 := hC2.cell HCE.out.1.2 id
                have z0 := hC2.cell HCE.out.2.1.1 id
                have z2 := hC2.cell HCE.out.2.1.2 id
                have hx3 := hC2.cell HX3.out id
                have HC2 := Lib.hid hC2
                clear hC2
                by_cases hkP : k < P
                · have hkP' : (k : Int) < (P : Int) := by omega
                  have hkd : decide (k < P) = true := decide_eq_true hkP
                  clear hkP hk
                  go_wp2
                  go_roundw
                  case rel => first | exact ⟨j + 1, HJM.out, by go_num, HC2.out⟩ | fail
                  case measure => exact HM1.out
                · have hkP' : ¬ (k : Int) < (P : Int) := by omega
                  have hkd : decide (k < P) = false := decide_eq_false hkP
                  clear hkP hk
                  go_wp2
                  go_roundw
                  case rel => first | exact ⟨j + 1, HJM.out, by go_num, HC2.out⟩ | fail
                  case measure => exact HM1.out
        · have hjn : ¬ (j : Int) < (m : Int) := by omega
          go_wp2
          go_ret
          exact ⟨rfl, HC.out.tr HCW.out⟩
    · rcases io_bad hv with ⟨hi, hm⟩ | ⟨hi, hm⟩
      · clear hv
        have h1 := indexOf_any _ _ A B _ hb1 hb2 HI.out.1 HI.out.2
        rw [hi] at h1
        generalize ioA A B = XX at *
        go_wp2_with fail
        refine h1.mono ?_
        clear h1 y0 y1 y2 hb1 z0 z1 z2 hb2
        rintro e9 w4 ⟨v9, rfl, ho9, hC9⟩
        obtain ⟨a9, c9, b9, d9, rfl, _, _⟩ := ara_new ho9
        have hC8 := hC9.alloc (.cells #[.int .i64 XX.k, .slice a9 XX.s.length c9, .slice b9 XX.e.length d9] 25)
        replace HC := Lib.hid (HC.out.tr hC8)
        replace hb := hb.fr hC8
        replace hbb := hbb.fr hC8
        clear hC8 hC9 ho9
        obtain ⟨sa, cs, sb, cb, ⟨y0, y1, y2⟩, hb1⟩ := id hb
        obtain ⟨sa2, cs2, sb2, cb2, ⟨z0, z1, z2⟩, hb2⟩ := id hbb
        have h1 := member_any _ _ B A _ hb2 hb1 HI.out.2 HI.out.1
        rw [hm] at h1
        generalize meA B A = YY at *
        go_wp2_with fail
        refine h1.mono ?_
        clear h1 y0 y1 y2 hb1 z0 z1 z2 hb2
        rintro e9 w5 ⟨v9, rfl, ho9, hC9⟩
        obtain ⟨a7, c7, b7, d7, rfl, _, _⟩ := ara_new ho9
        have HC9 := Lib.hid (HC.out.tr (hC9.alloc (.cells #[.int .i64 YY.k, .slice a7 YY.s.length c7, .slice b7 YY.e.length d7] 25)))
        clear hC9 ho9 hb hbb
        go_wp2
        go_ret
        exact ⟨rfl, HC9.out⟩
      · clear hv
        have h1 := indexOf_any _ _ A B _ hb1 hb2 HI.out.1 HI.out.2
        rw [hi] at h1
        generalize ioA A B = XX at *
        go_wp2_with fail
        refine h1.mono ?_
        clear h1 y0 y1 y2 hb1 z0 z1 z2 hb2
        rintro e9 w4 ⟨v9, rfl, ho9, hC9⟩
        obtain ⟨a9, c9, b9, d9, rfl, _, _⟩ := ara_new ho9
        have hC8 := hC9.alloc (.cells #[.int .i64 XX.k, .slice a9 XX.s.length c9, .slice b9 XX.e.length d9] 25)
        replace HC := Lib.hid (HC.out.tr hC8)
        replace hb := hb.fr hC8
        replace hbb := hbb.fr hC8
        clear hC8 hC9 ho9
        obtain ⟨sa, cs, sb, cb, ⟨y0, y1, y2⟩, hb1⟩ := id hb
        obtain ⟨sa2, cs2, sb2, cb2, ⟨z0, z1, z2⟩, hb2⟩ := id hbb
        have h1 := member_any _ _ B A _ hb2 hb1 HI.out.2 HI.out.1
        rw [hm] at h1
        generalize meA B A = YY at *
        go_wp2_with fail
        refine h1.mono ?_
        clear h1 y0 y1 y2 hb1 z0 z1 z2 hb2
        rintro e9 w5 ⟨v9, rfl, ho9, hC9⟩
        obtain ⟨a7, c7, b7, d7, rfl, _, _⟩ := ara_new ho9
        have HC9 := Lib.hid (HC.out.tr (hC9.alloc (.cells #[.int .i64 YY.k, .slice a7 YY.s.length c7, .slice b7 YY.e.length d7] 25)))
        clear hC9 ho9 hb hbb
        go_wp2
        go_ret
        exact ⟨rfl, HC9.out⟩
end Go.Proofs.Ytnjnajbdpaaikaa
