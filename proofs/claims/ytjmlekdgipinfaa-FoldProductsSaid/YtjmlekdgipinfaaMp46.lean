/- The document's fold: the shape of an inner product. -/
import Derived.Test.YtjmlekdgipinfaaMp43
import Derived.Test.YtjmlekdgipinfaaMp45
namespace Go.Proofs.Ytjmlekdgipinfaa
open Go.RowKit Go.Shelf

set_option maxRecDepth 100000 in
set_option maxHeartbeats 2000000 in
theorem r16innerS_any (f g : Int) (u v : Value) (A B : Ar) (w : World) (hA : Ara w u A) (hB : Ara w v B) (hl1 : A.e.length ≤ 1000000) (hl2 : B.e.length ≤ 1000000) : Calls Try.prog 36 #[.int .i64 f, .int .i64 g, u, v] w (GaveIS w (shpI A B) (lngI A B) (isE f g A B)) := by
  have hbf := r12binary_any f
  have hbg := r12binary_any g
  unfold SaidB at hbf hbg
  obtain ⟨vs, ve, rfl, hs, he⟩ := hA
  obtain ⟨us, ue, rfl, ht, hf⟩ := hB
  obtain ⟨sa, cs, rfl, _⟩ := hs.form
  obtain ⟨ea, ce, rfl, _⟩ := he.form
  obtain ⟨ta, ct, rfl, _⟩ := ht.form
  obtain ⟨fa, cf, rfl, _⟩ := hf.form
  have hK1 := (Chg.refl (fun _ => False) w).alloc (.cells #[.int .i64 A.k, .slice sa A.s.length cs, .slice ea A.e.length ce] 25)
  have hK2 := (Chg.refl (fun _ => False) (w.alloc (.cells #[.int .i64 A.k, .slice sa A.s.length cs, .slice ea A.e.length ce] 25))).alloc (.cells #[.int .i64 B.k, .slice ta B.s.length ct, .slice fa B.e.length cf] 25)
  have hbb := Bx1.new (A := B) 25 (ht.fr hK1) (hf.fr hK1)
  rw [World.size_alloc] at hbb
  have HBA := Lib.hid ((Bx1.new (A := A) 25 hs he).fr hK2)
  have HBB := Lib.hid hbb
  have HC := Lib.hid (hK1.tr hK2)
  clear hs he ht hf hK1 hK2 hbb
  obtain ⟨nA, hnA⟩ : ∃ n, A.s.length = n := ⟨_, rfl⟩
  obtain ⟨nB, hnB⟩ : ∃ n, B.s.length = n := ⟨_, rfl⟩
  have HN := Lib.hid (And.intro hnA hnB)
  rw [hnA, hnB] at HBA HBB HC ⊢
  clear hnA hnB
  have a0 := HBA.out.a0
  have a1 := HBA.out.a1
  have a2 := HBA.out.a2
  have b0 := HBB.out.a0
  have b1 := HBB.out.a1
  have b2 := HBB.out.a2
  rw [HN.out.1] at a1
  rw [HN.out.2] at b1
  cases hf : binB f with
  | false =>
    rw [show isE f g A B = 2 by unfold isE ckE; simp [hf]]
    rw [hf] at hbf
    clear hf hbg
    go_enter Try.func36, Try.ntmps36
    go_wp2_with (go_at_call 70; (with_reducible refine (hbf _).mono ?_); rintro e9 w1 ⟨rfl, rfl⟩)
    go_wp2
    simp [bodyPost, results, Try.results36, go_sem]
    exact ⟨_, _, rfl, HC.out, fun h => absurd h (by decide), fun _ => ⟨rfl, rfl⟩⟩
  | true =>
    rw [hf] at hbf
    cases hg : binB g with
    | false =>
      rw [show isE f g A B = 2 by unfold isE ckE; simp [hg]]
      rw [hg] at hbg
      clear hf hg
      go_enter Try.func36, Try.ntmps36
      go_wp2_with (go_at_call 70; (first | (with_reducible refine (hbf _).mono ?_) | (with_reducible refine (hbg _).mono ?_)); rintro e9 w1 ⟨rfl, rfl⟩)
      go_wp2
      simp [bodyPost, results, Try.results36, go_sem]
      exact ⟨_, _, rfl, HC.out, fun h => absurd h (by decide), fun _ => ⟨rfl, rfl⟩⟩
    | true =>
      rw [hg] at hbg
      cases hA1 : chkB A with
      | false =>
        rw [show isE f g A B = 110 by unfold isE ckE; simp [hf, hg, hA1]]
        clear hf hg
        go_enter Try.func36, Try.ntmps36
        have hca := HBA.out.ara
        rw [HN.out.1] at hca
        replace hca := r11check_any _ A _ hca hl1
        unfold GaveI at hca
        rw [show chkE A = 110 by unfold chkE; rw [hA1]; rfl] at hca
        go_wp2_with (go_at_call 70; (first | (with_reducible refine (hbf _).mono ?_) | (with_reducible refine (hbg _).mono ?_)); rintro e9 w1 ⟨rfl, rfl⟩)
        refine hca.mono ?_
        clear hca
        rintro e9 w1 ⟨rfl, hC1⟩
        clear a0 a1 a2 b0 b1 b2
        replace HBA := Lib.hid (HBA.out.fr hC1)
        replace HBB := Lib.hid (HBB.out.fr hC1)
        replace HC := Lib.hid (HC.out.tr hC1)
        have a0 := HBA.out.a0
        have a1 := HBA.out.a1
        have a2 := HBA.out.a2
        have b0 := HBB.out.a0
        have b1 := HBB.out.a1
        have b2 := HBB.out.a2
        rw [HN.out.1] at a1
        rw [HN.out.2] at b1
        clear hC1
        go_wp2
        simp [bodyPost, results, Try.results36, go_sem]
        exact ⟨_, _, rfl, HC.out, fun h => absurd h (by decide), fun _ => ⟨rfl, rfl⟩⟩
      | true =>
        cases hB1 : chkB B with
        | false =>
          rw [show isE f g A B = 110 by unfold isE ckE; simp [hf, hg, hA1, hB1]]
          clear hf hg
          go_enter Try.func36, Try.ntmps36
          have hca := HBA.out.ara
          rw [HN.out.1] at hca
          replace hca := r11check_any _ A _ hca hl1
          unfold GaveI at hca
          rw [show chkE A = 0 by unfold chkE; rw [hA1]; rfl] at hca
          go_wp2_with (go_at_call 70; (first | (with_reducible refine (hbf _).mono ?_) | (with_reducible refine (hbg _).mono ?_)); rintro e9 w1 ⟨rfl, rfl⟩)
          refine hca.mono ?_
          clear hca
          rintro e9 w1 ⟨rfl, hC1⟩
          clear a0 a1 a2 b0 b1 b2
          replace HBA := Lib.hid (HBA.out.fr hC1)
          replace HBB := Lib.hid (HBB.out.fr hC1)
          replace HC := Lib.hid (HC.out.tr hC1)
          have a0 := HBA.out.a0
          have a1 := HBA.out.a1
          have a2 := HBA.out.a2
          have b0 := HBB.out.a0
          have b1 := HBB.out.a1
          have b2 := HBB.out.a2
          rw [HN.out.1] at a1
          rw [HN.out.2] at b1
          clear hC1
          have hcb := HBB.out.ara
          rw [HN.out.2] at hcb
          replace hcb := r11check_any _ B w1 hcb hl2
          unfold GaveI at hcb
          rw [show chkE B = 110 by unfold chkE; rw [hB1]; rfl] at hcb
          go_wp2_with fail
          refine hcb.mono ?_
          clear hcb
          rintro e9 w2 ⟨rfl, hC1⟩
          clear a0 a1 a2 b0 b1 b2
          replace HBA := Lib.hid (HBA.out.fr hC1)
          replace HBB := Lib.hid (HBB.out.fr hC1)
          replace HC := Lib.hid (HC.out.tr hC1)
          have a0 := HBA.out.a0
          have a1 := HBA.out.a1
          have a2 := HBA.out.a2
          have b0 := HBB.out.a0
          have b1 := HBB.out.a1
          have b2 := HBB.out.a2
          rw [HN.out.1] at a1
          rw [HN.out.2] at b1
          clear hC1
          go_wp2
          simp [bodyPost, results, Try.results36, go_sem]
          exact ⟨_, _, rfl, HC.out, fun h => absurd h (by decide), fun _ => ⟨rfl, rfl⟩⟩
        | true =>
          have hkn := r12kinds_any g A.k B.k
          unfold SaidI at hkn
          have hck : ckE [f, g] A B = 0 := by unfold ckE; simp [hf, hg, hA1, hB1]
          have q1 := (shB_iff.1 (chkB_iff.1 hA1).1).1
          have q2 := (shB_iff.1 (chkB_iff.1 hB1).1).1
          have HX := Lib.hid (show A.s.dropLast.length + (B.s.drop 1).length ≤ 1000000 by rw [List.length_dropLast, List.length_drop]; omega)
          have HNA := Lib.hid (show nA ≤ 1000000 by have := HN.out.1; omega)
          obtain ⟨kn, hk⟩ : ∃ kn, knE g A.k B.k = kn := ⟨_, rfl⟩
          rw [hk] at hkn
          have hE : isE f g A B = if badP A B then 4 else if kn = 0 then (if shB (shpI A B) then 0 else 9) else kn := by unfold isE; rw [if_pos hck, hk]
          obtain ⟨E, hEE⟩ : ∃ E, isE f g A B = E := ⟨_, rfl⟩
          rw [hEE] at hE ⊢
          have HEB := Lib.hid (show badP A B → E = 4 from fun h => by rw [hE, if_pos h])
          have HEK := Lib.hid (show ¬ badP A B → kn ≠ 0 → E = kn from fun h h2 => by rw [hE, if_neg h, if_neg h2])
          have HE := Lib.hid (show ¬ badP A B → kn = 0 → ((shB (shpI A B) = true → E = 0) ∧ (shB (shpI A B) = false → E = 9)) from fun h h2 => ⟨fun h3 => by rw [hE, if_neg h, if_pos h2, h3]; rfl, fun h3 => by rw [hE, if_neg h, if_pos h2, h3]; rfl⟩)
          obtain ⟨L, hL⟩ : ∃ L, lngI A B = L := ⟨_, rfl⟩
          have HL := Lib.hid hL
          rw [hL]
          clear hf hg hck hk hE hEE hL q1 q2
          go_enter Try.func36, Try.ntmps36
          have hca := HBA.out.ara
          rw [HN.out.1] at hca
          replace hca := r11check_any _ A _ hca hl1
          unfold GaveI at hca
          rw [show chkE A = 0 by unfold chkE; rw [hA1]; rfl] at hca
          go_wp2_with (go_at_call 70; (first | (with_reducible refine (hbf _).mono ?_) | (with_reducible refine (hbg _).mono ?_)); rintro e9 w1 ⟨rfl, rfl⟩)
          refine hca.mono ?_
          clear hca
          rintro e9 w1 ⟨rfl, hC1⟩
          clear a0 a1 a2 b0 b1 b2
          replace HBA := Lib.hid (HBA.out.fr hC1)
          replace HBB := Lib.hid (HBB.out.fr hC1)
          replace HC := Lib.hid (HC.out.tr hC1)
          have a0 := HBA.out.a0
          have a1 := HBA.out.a1
          have a2 := HBA.out.a2
          have b0 := HBB.out.a0
          have b1 := HBB.out.a1
          have b2 := HBB.out.a2
          rw [HN.out.1] at a1
          rw [HN.out.2] at b1
          clear hC1
          have hcb := HBB.out.ara
          rw [HN.out.2] at hcb
          replace hcb := r11check_any _ B w1 hcb hl2
          unfold GaveI at hcb
          rw [show chkE B = 0 by unfold chkE; rw [hB1]; rfl] at hcb
          go_wp2_with fail
          refine hcb.mono ?_
          clear hcb
          rintro e9 w2 ⟨rfl, hC1⟩
          clear a0 a1 a2 b0 b1 b2
          replace HBA := Lib.hid (HBA.out.fr hC1)
          replace HBB := Lib.hid (HBB.out.fr hC1)
          replace HC := Lib.hid (HC.out.tr hC1)
          have a0 := HBA.out.a0
          have a1 := HBA.out.a1
          have a2 := HBA.out.a2
          have b0 := HBB.out.a0
          have b1 := HBB.out.a1
          have b2 := HBB.out.a2
          rw [HN.out.1] at a1
          rw [HN.out.2] at b1
          clear hC1
          rcases Nat.eq_zero_or_pos nB with hb | hb
          · have hdB : decide (0 < nB) = false := decide_eq_false (by omega)
            have hdB' : decide ((0 : Int) < (nB : Int)) = false := decide_eq_false (by omega)
            have HB0 := Lib.hid (show B.s = [] from List.eq_nil_of_length_eq_zero (by rw [HN.out.2]; exact hb))
            have HRL := Lib.hid (show Ls w2 (.slice none 0 0) (B.s.drop 1) by rw [HB0.out]; exact Ls.nil _)
            clear hb
            rcases Nat.eq_zero_or_pos nA with ha | ha
            · have hdA : decide (0 < nA) = false := decide_eq_false (by omega)
              have hdA' : decide ((0 : Int) < (nA : Int)) = false := decide_eq_false (by omega)
              have HA0 := Lib.hid (show A.s = [] from List.eq_nil_of_length_eq_zero (by rw [HN.out.1]; exact ha))
              have HFL := Lib.hid (show Ls w2 (.slice none 0 0) A.s.dropLast by rw [HA0.out]; exact Ls.nil _)
              have HNB := Lib.hid (show ¬ badP A B from fun h => h.1 HA0.out)
              have HLN := Lib.hid (show L = 1 from by rw [← HL.out]; unfold lngI; rw [HA0.out, HB0.out]; rfl)
              clear ha
              have hjn := r16join_any _ _ A.s.dropLast (B.s.drop 1) w2 HFL.out HRL.out HX.out
              unfold GaveLm at hjn
              rw [show A.s.dropLast ++ B.s.drop 1 = shpI A B from rfl] at hjn
              have HSZ := Lib.hid (show w.heap.size ≤ w2.heap.size from HC.out.size)
              go_wp2_with fail
              refine (hkn _).mono ?_
              clear hkn
              rintro e9 w3 ⟨rfl, rfl⟩
              by_cases h2 : kn = 0
              · subst h2
                have HE3 := Lib.hid (HE.out HNB.out (by first | rfl | trivial))
                go_wp2_with fail
                refine hjn.mono ?_
                clear hjn
                rintro e9 w4 ⟨hC4, x, n, rfl, hv⟩
                have HC4 := Lib.hid (HC.out.tr hC4)
                rcases hv with ⟨hs, rfl, ho⟩ | ⟨hs, rfl, rfl⟩
                · obtain rfl := HE3.out.1 hs
                  obtain ⟨ax, cx, rfl⟩ := own_name ho
                  have HO := Lib.hid (ho.mono HSZ.out)
                  clear hs ho hC4 a0 a1 a2 b0 b1 b2
                  go_wp2
                  simp [bodyPost, results, Try.results36, go_sem]
                  exact ⟨_, _, rfl, HC4.out, fun _ => ⟨HLN.out.symm, HO.out⟩, fun h => absurd rfl h⟩
                · obtain rfl := HE3.out.2 hs
                  clear hs hC4 a0 a1 a2 b0 b1 b2
                  go_wp2
                  simp [bodyPost, results, Try.results36, go_sem]
                  exact ⟨_, _, rfl, HC4.out, fun h => absurd h (by decide), fun _ => ⟨rfl, rfl⟩⟩
              · obtain rfl := HEK.out HNB.out h2
                have e2 := bne_t h2
                have H2 := Lib.hid h2
                clear h2 hjn
                go_wp2
                simp [bodyPost, results, Try.results36, go_sem]
                exact ⟨_, _, rfl, HC.out, fun h => absurd h H2.out, fun _ => ⟨rfl, rfl⟩⟩
            · have _u := True.intro
              clear _u
              obtain ⟨m, hm⟩ : ∃ m, nA = m + 1 := ⟨nA - 1, by omega⟩
              have hmA : m < A.s.length := by rw [HN.out.1]; omega
              have hls := HBA.out.ls.1
              obtain ⟨ak, ck', hkl, hkrun⟩ := icut_upto hls m (by omega)
              rw [show A.s.take m = A.s.dropLast by rw [List.dropLast_eq_take, HN.out.1, hm]; rfl] at hkl
              obtain ⟨xa, oa, ca', e1, hxa⟩ := hls.at hmA
              injection e1 with e1 e2 e3
              subst e1
              clear e2 e3
              rw [HN.out.1] at hkrun
              have HLAST := Lib.hid (fun d => last_at (l := A.s) (m := m) d (by rw [HN.out.1]; exact hm))
              obtain ⟨LA, hLA⟩ : ∃ x, A.s[m] = x := ⟨_, rfl⟩
              rw [hLA] at hxa
              replace HLAST := Lib.hid (show ∀ d, A.s.getLastD d = LA from fun d => (HLAST.out d).trans hLA)
              have hwm : IntKind.i64.wrap ((nA : Int) - 1) = (m : Int) := by have := HNA.out; rw [IntWalk.i64_in _ (by omega)]; omega
              have m0 : (0 : Int) ≤ (m : Int) := by omega
              have m1 : (m : Int) < (nA : Int) := by omega
              have hdA : decide (0 < nA) = true := decide_eq_true ha
              have hdA' : decide ((0 : Int) < (nA : Int)) = true := decide_eq_true (by omega)
              have HKL := Lib.hid hkl
              have HAN := Lib.hid (show A.s ≠ [] from fun e => by have := HN.out.1; rw [e] at this; simp at this; omega)
              clear hm hmA hLA hkl ha hls
              have HNB := Lib.hid (show ¬ badP A B from fun h => h.2.1 HB0.out)
              have HLN := Lib.hid (show L = LA from by rw [← HL.out]; unfold lngI; exact HLAST.out _)
              have hjn := r16join_any _ _ A.s.dropLast (B.s.drop 1) w2 HKL.out HRL.out HX.out
              unfold GaveLm at hjn
              rw [show A.s.dropLast ++ B.s.drop 1 = shpI A B from rfl] at hjn
              have HSZ := Lib.hid (show w.heap.size ≤ w2.heap.size from HC.out.size)
              go_wp2_with fail
              refine (hkn _).mono ?_
              clear hkn
              rintro e9 w3 ⟨rfl, rfl⟩
              by_cases h2 : kn = 0
              · subst h2
                have HE3 := Lib.hid (HE.out HNB.out (by first | rfl | trivial))
                go_wp2_with fail
                refine hjn.mono ?_
                clear hjn
                rintro e9 w4 ⟨hC4, x, n, rfl, hv⟩
                have HC4 := Lib.hid (HC.out.tr hC4)
                rcases hv with ⟨hs, rfl, ho⟩ | ⟨hs, rfl, rfl⟩
                · obtain rfl := HE3.out.1 hs
                  obtain ⟨ax, cx, rfl⟩ := own_name ho
                  have HO := Lib.hid (ho.mono HSZ.out)
                  clear hs ho hC4 a0 a1 a2 b0 b1 b2
                  go_wp2
                  simp [bodyPost, results, Try.results36, go_sem]
                  exact ⟨_, _, rfl, HC4.out, fun _ => ⟨HLN.out.symm, HO.out⟩, fun h => absurd rfl h⟩
                · obtain rfl := HE3.out.2 hs
                  clear hs hC4 a0 a1 a2 b0 b1 b2
                  go_wp2
                  simp [bodyPost, results, Try.results36, go_sem]
                  exact ⟨_, _, rfl, HC4.out, fun h => absurd h (by decide), fun _ => ⟨rfl, rfl⟩⟩
              · obtain rfl := HEK.out HNB.out h2
                have e2 := bne_t h2
                have H2 := Lib.hid h2
                clear h2 hjn
                go_wp2
                simp [bodyPost, results, Try.results36, go_sem]
                exact ⟨_, _, rfl, HC.out, fun h => absurd h H2.out, fun _ => ⟨rfl, rfl⟩⟩
          · have _u := True.intro
            clear _u
            have hbB : 0 < B.s.length := by rw [HN.out.2]; exact hb
            have hls := HBB.out.ls.1
            obtain ⟨bk, bc, hbl, hbrun⟩ := icut_from hls hbB
            obtain ⟨xb, ob, cb', e1, hxb⟩ := hls.at (j := 0) hbB
            injection e1 with e1 e2 e3
            subst e1
            clear e2 e3
            rw [Nat.add_zero] at hxb
            have HHEAD := Lib.hid (fun d => head_at (l := B.s) d hbB)
            obtain ⟨LB, hLB⟩ : ∃ x, B.s[0] = x := ⟨_, rfl⟩
            rw [hLB] at hxb
            replace HHEAD := Lib.hid (show ∀ d, B.s.headD d = LB from fun d => (HHEAD.out d).trans hLB)
            obtain ⟨n1, hn1⟩ : ∃ n1, B.s.length - 1 = n1 := ⟨_, rfl⟩
            rw [hn1] at hbl hbrun
            rw [HN.out.2] at hbrun
            have hdB : decide (0 < nB) = true := decide_eq_true hb
            have hdB' : decide ((0 : Int) < (nB : Int)) = true := decide_eq_true (by omega)
            have i1 : (0 : Int) < (nB : Int) := by omega
            have HBL := Lib.hid hbl
            have HBN := Lib.hid (show B.s ≠ [] from fun e => by rw [e] at hbB; simp at hbB)
            clear hbB hLB hn1 hbl hls
            rcases Nat.eq_zero_or_pos nA with ha | ha
            · have hdA : decide (0 < nA) = false := decide_eq_false (by omega)
              have hdA' : decide ((0 : Int) < (nA : Int)) = false := decide_eq_false (by omega)
              have HA0 := Lib.hid (show A.s = [] from List.eq_nil_of_length_eq_zero (by rw [HN.out.1]; exact ha))
              have HFL := Lib.hid (show Ls w2 (.slice none 0 0) A.s.dropLast by rw [HA0.out]; exact Ls.nil _)
              have HNB := Lib.hid (show ¬ badP A B from fun h => h.1 HA0.out)
              have HLN := Lib.hid (show L = LB from by rw [← HL.out]; unfold lngI; rw [HA0.out]; exact HHEAD.out _)
              clear ha
              have hjn := r16join_any _ _ A.s.dropLast (B.s.drop 1) w2 HFL.out HBL.out HX.out
              unfold GaveLm at hjn
              rw [show A.s.dropLast ++ B.s.drop 1 = shpI A B from rfl] at hjn
              have HSZ := Lib.hid (show w.heap.size ≤ w2.heap.size from HC.out.size)
              go_wp2_with fail
              refine (hkn _).mono ?_
              clear hkn
              rintro e9 w3 ⟨rfl, rfl⟩
              by_cases h2 : kn = 0
              · subst h2
                have HE3 := Lib.hid (HE.out HNB.out (by first | rfl | trivial))
                go_wp2_with fail
                refine hjn.mono ?_
                clear hjn
                rintro e9 w4 ⟨hC4, x, n, rfl, hv⟩
                have HC4 := Lib.hid (HC.out.tr hC4)
                rcases hv with ⟨hs, rfl, ho⟩ | ⟨hs, rfl, rfl⟩
                · obtain rfl := HE3.out.1 hs
                  obtain ⟨ax, cx, rfl⟩ := own_name ho
                  have HO := Lib.hid (ho.mono HSZ.out)
                  clear hs ho hC4 a0 a1 a2 b0 b1 b2
                  go_wp2
                  simp [bodyPost, results, Try.results36, go_sem]
                  exact ⟨_, _, rfl, HC4.out, fun _ => ⟨HLN.out.symm, HO.out⟩, fun h => absurd rfl h⟩
                · obtain rfl := HE3.out.2 hs
                  clear hs hC4 a0 a1 a2 b0 b1 b2
                  go_wp2
                  simp [bodyPost, results, Try.results36, go_sem]
                  exact ⟨_, _, rfl, HC4.out, fun h => absurd h (by decide), fun _ => ⟨rfl, rfl⟩⟩
              · obtain rfl := HEK.out HNB.out h2
                have e2 := bne_t h2
                have H2 := Lib.hid h2
                clear h2 hjn
                go_wp2
                simp [bodyPost, results, Try.results36, go_sem]
                exact ⟨_, _, rfl, HC.out, fun h => absurd h H2.out, fun _ => ⟨rfl, rfl⟩⟩
            · have _u := True.intro
              clear _u
              obtain ⟨m, hm⟩ : ∃ m, nA = m + 1 := ⟨nA - 1, by omega⟩
              have hmA : m < A.s.length := by rw [HN.out.1]; omega
              have hls := HBA.out.ls.1
              obtain ⟨ak, ck', hkl, hkrun⟩ := icut_upto hls m (by omega)
              rw [show A.s.take m = A.s.dropLast by rw [List.dropLast_eq_take, HN.out.1, hm]; rfl] at hkl
              obtain ⟨xa, oa, ca', e1, hxa⟩ := hls.at hmA
              injection e1 with e1 e2 e3
              subst e1
              clear e2 e3
              rw [HN.out.1] at hkrun
              have HLAST := Lib.hid (fun d => last_at (l := A.s) (m := m) d (by rw [HN.out.1]; exact hm))
              obtain ⟨LA, hLA⟩ : ∃ x, A.s[m] = x := ⟨_, rfl⟩
              rw [hLA] at hxa
              replace HLAST := Lib.hid (show ∀ d, A.s.getLastD d = LA from fun d => (HLAST.out d).trans hLA)
              have hwm : IntKind.i64.wrap ((nA : Int) - 1) = (m : Int) := by have := HNA.out; rw [IntWalk.i64_in _ (by omega)]; omega
              have m0 : (0 : Int) ≤ (m : Int) := by omega
              have m1 : (m : Int) < (nA : Int) := by omega
              have hdA : decide (0 < nA) = true := decide_eq_true ha
              have hdA' : decide ((0 : Int) < (nA : Int)) = true := decide_eq_true (by omega)
              have HKL := Lib.hid hkl
              have HAN := Lib.hid (show A.s ≠ [] from fun e => by have := HN.out.1; rw [e] at this; simp at this; omega)
              clear hm hmA hLA hkl ha hls
              by_cases hne : LB = LA
              · have hn1' : (LB != LA) = false := bne_f hne
                have HNB := Lib.hid (show ¬ badP A B from fun h => h.2.2 (by rw [HLAST.out, HHEAD.out, hne]))
                have HLN := Lib.hid (show L = LB from by rw [← HL.out]; unfold lngI; rw [hne]; exact HLAST.out _)
                clear hne
                have hjn := r16join_any _ _ A.s.dropLast (B.s.drop 1) w2 HKL.out HBL.out HX.out
                unfold GaveLm at hjn
                rw [show A.s.dropLast ++ B.s.drop 1 = shpI A B from rfl] at hjn
                have HSZ := Lib.hid (show w.heap.size ≤ w2.heap.size from HC.out.size)
                go_wp2_with fail
                refine (hkn _).mono ?_
                clear hkn
                rintro e9 w3 ⟨rfl, rfl⟩
                by_cases h2 : kn = 0
                · subst h2
                  have HE3 := Lib.hid (HE.out HNB.out (by first | rfl | trivial))
                  go_wp2_with fail
                  refine hjn.mono ?_
                  clear hjn
                  rintro e9 w4 ⟨hC4, x, n, rfl, hv⟩
                  have HC4 := Lib.hid (HC.out.tr hC4)
                  rcases hv with ⟨hs, rfl, ho⟩ | ⟨hs, rfl, rfl⟩
                  · obtain rfl := HE3.out.1 hs
                    obtain ⟨ax, cx, rfl⟩ := own_name ho
                    have HO := Lib.hid (ho.mono HSZ.out)
                    clear hs ho hC4 a0 a1 a2 b0 b1 b2
                    go_wp2
                    simp [bodyPost, results, Try.results36, go_sem]
                    exact ⟨_, _, rfl, HC4.out, fun _ => ⟨HLN.out.symm, HO.out⟩, fun h => absurd rfl h⟩
                  · obtain rfl := HE3.out.2 hs
                    clear hs hC4 a0 a1 a2 b0 b1 b2
                    go_wp2
                    simp [bodyPost, results, Try.results36, go_sem]
                    exact ⟨_, _, rfl, HC4.out, fun h => absurd h (by decide), fun _ => ⟨rfl, rfl⟩⟩
                · obtain rfl := HEK.out HNB.out h2
                  have e2 := bne_t h2
                  have H2 := Lib.hid h2
                  clear h2 hjn
                  go_wp2
                  simp [bodyPost, results, Try.results36, go_sem]
                  exact ⟨_, _, rfl, HC.out, fun h => absurd h H2.out, fun _ => ⟨rfl, rfl⟩⟩
              · have hn1' : (LB != LA) = true := bne_t hne
                obtain rfl := HEB.out ⟨HAN.out, HBN.out, by rw [HLAST.out, HHEAD.out]; exact fun h => hne h.symm⟩
                clear hne
                go_wp2
                simp [bodyPost, results, Try.results36, go_sem]
                exact ⟨_, _, rfl, HC.out, fun h => absurd h (by decide), fun _ => ⟨rfl, rfl⟩⟩
end Go.Proofs.Ytjmlekdgipinfaa
