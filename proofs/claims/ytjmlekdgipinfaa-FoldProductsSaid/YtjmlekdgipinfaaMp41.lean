/- The document's fold: two shapes joined; the shape of an outer product. -/
import Derived.Test.YtjmlekdgipinfaaMp40
namespace Go.Proofs.Ytjmlekdgipinfaa
open Go.RowKit Go.Shelf

set_option maxRecDepth 100000 in
set_option maxHeartbeats 1000000 in
theorem r16join_any (va vb : Value) (xs ys : List Int) (w : World) (hX : Ls w va xs) (hY : Ls w vb ys) (hn : xs.length + ys.length ≤ 1000000) : Calls Try.prog 73 #[va, vb] w (GaveLm w (xs ++ ys)) := by
  obtain ⟨i0, hi, hz0, hz1, hz2⟩ := info_parts info_int
  have hin := r11ints_any va xs w hX (by omega)
  unfold GaveL at hin
  obtain ⟨a1, c1, rfl, _⟩ := hX.form
  obtain ⟨a2, c2, rfl, _⟩ := hY.form
  have HY := Lib.hid hY
  have HN := Lib.hid hn
  clear hX hY hn
  go_enter Try.func73, Try.ntmps73
  go_wp2_with fail
  refine hin.mono ?_
  clear hin
  rintro e9 w1 ⟨v1, rfl, ho, hC1⟩
  obtain ⟨al, Ll, cl, rfl, hL⟩ := own_nm ho
  have HO := Lib.hid ho
  have HC1 := Lib.hid hC1
  have HSZ := Lib.hid (show w.heap.size ≤ w1.heap.size from hC1.size)
  clear ho hC1
  go_wp2_with (refine wpList_append_own_any rfl (.tmp 10) (.tmp 11) 22 rfl w.heap.size 3 i0 (.int .i64 0) 1 8 Try.underlying22 hi hz0 hz1 hz2 rfl (by decide) (.slice al Ll cl) xs.length (xs.map I) rfl HO.out a2 ys.length c2 (ys.map I) rfl (by simp) (HY.out.fr HC1.out).src (I_one ys) (by have := HN.out; unfold maxLen; omega) (by have := HN.out; omega) HSZ.out ?_; intro v2 w2 hown hg _ hO2)
  have ho2 : Own w2 w.heap.size 3 v2 (xs ++ ys) := by
    unfold Own
    rw [List.length_append, List.map_append]
    exact hown
  have HC2 := Lib.hid (show Chg (fun _ => False) w w2 from HC1.out.grown hg (fun k e => .inr (HO.out.lt k e).1))
  have hcn := r11count_any _ _ _ ho2.ls
  unfold GaveC at hcn
  obtain ⟨al2, L2, cl2, rfl, hL2⟩ := own_nm ho2
  have HO2 := Lib.hid ho2
  clear ho2 hown hg hO2 hL2 hL
  cases hs : shB (xs ++ ys) with
  | true =>
    rw [cntE_ok hs, cntN_ok hs] at hcn
    have HS := Lib.hid hs
    clear hs
    go_wp2_with fail
    refine hcn.mono ?_
    clear hcn
    rintro e9 w3 ⟨rfl, rfl⟩
    go_wp2
    go_ret2
    exact ⟨HC2.out, _, _, rfl, .inl ⟨HS.out, rfl, HO2.out⟩⟩
  | false =>
    rw [cntE_not hs, cntN_not hs] at hcn
    have HS := Lib.hid hs
    clear hs
    go_wp2_with fail
    refine hcn.mono ?_
    clear hcn
    rintro e9 w3 ⟨rfl, rfl⟩
    go_wp2
    go_ret2
    exact ⟨HC2.out, _, _, rfl, .inr ⟨HS.out, rfl, rfl⟩⟩
set_option maxRecDepth 100000 in
set_option maxHeartbeats 1000000 in
theorem r16outerS_any (f : Int) (u v : Value) (A B : Ar) (w : World) (hA : Ara w u A) (hB : Ara w v B) (hl1 : A.e.length ≤ 1000000) (hl2 : B.e.length ≤ 1000000) : Calls Try.prog 34 #[.int .i64 f, u, v] w (GaveOS w (A.s ++ B.s) (ouE f A B)) := by
  have hbi := r12binary_any f
  unfold SaidB at hbi
  obtain ⟨vs, ve, rfl, hs, he⟩ := hA
  obtain ⟨us, ue, rfl, ht, hf⟩ := hB
  obtain ⟨sa, cs, rfl, _⟩ := hs.form
  obtain ⟨ea, ce, rfl, _⟩ := he.form
  obtain ⟨ta, ct, rfl, _⟩ := ht.form
  obtain ⟨fa, cf, rfl, _⟩ := hf.form
  have hK1 := (Chg.refl (fun _ => False) w).alloc (.cells #[.int .i64 A.k, .slice sa A.s.length cs, .slice ea A.e.length ce] 25)
  have hK2 := (Chg.refl (fun _ => False) (w.alloc (.cells #[.int .i64 A.k, .slice sa A.s.length cs, .slice ea A.e.length ce] 25))).alloc (.cells #[.int .i64 B.k, .slice ta B.s.length ct, .slice fa B.e.length cf] 25)
  have hbb := Bx1.new (A := B) 25 (ht.fr hK1) (hf.fr hK1)
  rw [World.size_alloc] at hbb
  have HBA := Lib.hid ((Bx1.new (A := A) 25 hs he).fr hK2)
  have HBB := Lib.hid hbb
  have HC := Lib.hid (hK1.tr hK2)
  clear hs he ht hf hK1 hK2 hbb
  have a0 := HBA.out.a0
  have a1 := HBA.out.a1
  have a2 := HBA.out.a2
  have b0 := HBB.out.a0
  have b1 := HBB.out.a1
  have b2 := HBB.out.a2
  cases hb : binB f with
  | false =>
    rw [show ouE f A B = 2 by unfold ouE ckE; simp [hb]]
    rw [hb] at hbi
    clear hb
    go_enter Try.func34, Try.ntmps34
    go_wp2_with (go_at_call 70; (with_reducible refine (hbi _).mono ?_); rintro e9 w1 ⟨rfl, rfl⟩)
    go_wp2
    go_ret2
    exact ⟨_, rfl, HC.out, fun h => absurd h (by decide), fun _ => rfl⟩
  | true =>
    rw [hb] at hbi
    cases hA1 : chkB A with
    | false =>
      rw [show ouE f A B = 110 by unfold ouE ckE; simp [hb, hA1]]
      clear hb
      go_enter Try.func34, Try.ntmps34
      have hca := r11check_any _ A _ HBA.out.ara hl1
      unfold GaveI at hca
      rw [show chkE A = 110 by unfold chkE; rw [hA1]; rfl] at hca
      go_wp2_with (go_at_call 70; (with_reducible refine (hbi _).mono ?_); rintro e9 w1 ⟨rfl, rfl⟩)
      refine hca.mono ?_
      clear hca
      rintro e9 w1 ⟨rfl, hC1⟩
      clear a0 a1 a2 b0 b1 b2
      replace HBA := Lib.hid (HBA.out.fr hC1)
      replace HBB := Lib.hid (HBB.out.fr hC1)
      replace HC := Lib.hid (HC.out.tr hC1)
      have a0 := HBA.out.a0
      have a1 := HBA.out.a1
      have a2 := HBA.out.a2
      have b0 := HBB.out.a0
      have b1 := HBB.out.a1
      have b2 := HBB.out.a2
      clear hC1
      go_wp2
      go_ret2
      exact ⟨_, rfl, HC.out, fun h => absurd h (by decide), fun _ => rfl⟩
    | true =>
      cases hB1 : chkB B with
      | false =>
        rw [show ouE f A B = 110 by unfold ouE ckE; simp [hb, hA1, hB1]]
        clear hb
        go_enter Try.func34, Try.ntmps34
        have hca := r11check_any _ A _ HBA.out.ara hl1
        unfold GaveI at hca
        rw [show chkE A = 0 by unfold chkE; rw [hA1]; rfl] at hca
        go_wp2_with (go_at_call 70; (with_reducible refine (hbi _).mono ?_); rintro e9 w1 ⟨rfl, rfl⟩)
        refine hca.mono ?_
        clear hca
        rintro e9 w1 ⟨rfl, hC1⟩
        clear a0 a1 a2 b0 b1 b2
        replace HBA := Lib.hid (HBA.out.fr hC1)
        replace HBB := Lib.hid (HBB.out.fr hC1)
        replace HC := Lib.hid (HC.out.tr hC1)
        have a0 := HBA.out.a0
        have a1 := HBA.out.a1
        have a2 := HBA.out.a2
        have b0 := HBB.out.a0
        have b1 := HBB.out.a1
        have b2 := HBB.out.a2
        clear hC1
        have hcb := r11check_any _ B w1 HBB.out.ara hl2
        unfold GaveI at hcb
        rw [show chkE B = 110 by unfold chkE; rw [hB1]; rfl] at hcb
        go_wp2_with fail
        refine hcb.mono ?_
        clear hcb
        rintro e9 w2 ⟨rfl, hC1⟩
        clear a0 a1 a2 b0 b1 b2
        replace HBA := Lib.hid (HBA.out.fr hC1)
        replace HBB := Lib.hid (HBB.out.fr hC1)
        replace HC := Lib.hid (HC.out.tr hC1)
        have a0 := HBA.out.a0
        have a1 := HBA.out.a1
        have a2 := HBA.out.a2
        have b0 := HBB.out.a0
        have b1 := HBB.out.a1
        have b2 := HBB.out.a2
        clear hC1
        go_wp2
        go_ret2
        exact ⟨_, rfl, HC.out, fun h => absurd h (by decide), fun _ => rfl⟩
      | true =>
        have hkn := r12kinds_any f A.k B.k
        unfold SaidI at hkn
        have hck : ckE [f] A B = 0 := by unfold ckE; simp [hb, hA1, hB1]
        have hlen : A.s.length + B.s.length ≤ 1000000 := by
          have q1 := (shB_iff.1 (chkB_iff.1 hA1).1).1
          have q2 := (shB_iff.1 (chkB_iff.1 hB1).1).1
          omega
        by_cases hk : knE f A.k B.k = 0
        · have HE := Lib.hid (show ouE f A B = if shB (A.s ++ B.s) then 0 else 9 by unfold ouE; rw [if_pos hck, if_pos hk])
          rw [hk] at hkn
          clear hb hck hk
          go_enter Try.func34, Try.ntmps34
          have hca := r11check_any _ A _ HBA.out.ara hl1
          unfold GaveI at hca
          rw [show chkE A = 0 by unfold chkE; rw [hA1]; rfl] at hca
          go_wp2_with (go_at_call 70; (with_reducible refine (hbi _).mono ?_); rintro e9 w1 ⟨rfl, rfl⟩)
          refine hca.mono ?_
          clear hca
          rintro e9 w1 ⟨rfl, hC1⟩
          clear a0 a1 a2 b0 b1 b2
          replace HBA := Lib.hid (HBA.out.fr hC1)
          replace HBB := Lib.hid (HBB.out.fr hC1)
          replace HC := Lib.hid (HC.out.tr hC1)
          have a0 := HBA.out.a0
          have a1 := HBA.out.a1
          have a2 := HBA.out.a2
          have b0 := HBB.out.a0
          have b1 := HBB.out.a1
          have b2 := HBB.out.a2
          clear hC1
          have hcb := r11check_any _ B w1 HBB.out.ara hl2
          unfold GaveI at hcb
          rw [show chkE B = 0 by unfold chkE; rw [hB1]; rfl] at hcb
          go_wp2_with fail
          refine hcb.mono ?_
          clear hcb
          rintro e9 w2 ⟨rfl, hC1⟩
          clear a0 a1 a2 b0 b1 b2
          replace HBA := Lib.hid (HBA.out.fr hC1)
          replace HBB := Lib.hid (HBB.out.fr hC1)
          replace HC := Lib.hid (HC.out.tr hC1)
          have a0 := HBA.out.a0
          have a1 := HBA.out.a1
          have a2 := HBA.out.a2
          have b0 := HBB.out.a0
          have b1 := HBB.out.a1
          have b2 := HBB.out.a2
          clear hC1
          have hjn := r16join_any _ _ A.s B.s w2 HBA.out.ls.1 HBB.out.ls.1 hlen
          unfold GaveLm at hjn
          have HSZ := Lib.hid (show w.heap.size ≤ w2.heap.size from HC.out.size)
          go_wp2_with fail
          refine (hkn _).mono ?_
          clear hkn
          rintro e9 w3 ⟨rfl, rfl⟩
          go_wp2_with fail
          refine hjn.mono ?_
          clear hjn
          rintro e9 w4 ⟨hC4, x, n, rfl, hv⟩
          have HC4 := Lib.hid (HC.out.tr hC4)
          have HV := Lib.hid hv
          clear hv hC4 a0 a1 a2 b0 b1 b2
          go_wp2
          go_ret2
          rw [HE.out]
          rcases HV.out with ⟨hs, rfl, ho⟩ | ⟨hs, rfl, rfl⟩
          · rw [hs]
            exact ⟨_, rfl, HC4.out, fun _ => ho.mono HSZ.out, fun h => absurd rfl h⟩
          · rw [hs]
            exact ⟨_, rfl, HC4.out, fun h => absurd h (by decide), fun _ => rfl⟩
        · rw [show ouE f A B = knE f A.k B.k by unfold ouE; rw [if_pos hck, if_neg hk]]
          have HK := Lib.hid hk
          generalize knE f A.k B.k = kn at *
          have hkne : (kn != 0) = true := bne_t hk
          clear hb hck hk
          go_enter Try.func34, Try.ntmps34
          have hca := r11check_any _ A _ HBA.out.ara hl1
          unfold GaveI at hca
          rw [show chkE A = 0 by unfold chkE; rw [hA1]; rfl] at hca
          go_wp2_with (go_at_call 70; (with_reducible refine (hbi _).mono ?_); rintro e9 w1 ⟨rfl, rfl⟩)
          refine hca.mono ?_
          clear hca
          rintro e9 w1 ⟨rfl, hC1⟩
          clear a0 a1 a2 b0 b1 b2
          replace HBA := Lib.hid (HBA.out.fr hC1)
          replace HBB := Lib.hid (HBB.out.fr hC1)
          replace HC := Lib.hid (HC.out.tr hC1)
          have a0 := HBA.out.a0
          have a1 := HBA.out.a1
          have a2 := HBA.out.a2
          have b0 := HBB.out.a0
          have b1 := HBB.out.a1
          have b2 := HBB.out.a2
          clear hC1
          have hcb := r11check_any _ B w1 HBB.out.ara hl2
          unfold GaveI at hcb
          rw [show chkE B = 0 by unfold chkE; rw [hB1]; rfl] at hcb
          go_wp2_with fail
          refine hcb.mono ?_
          clear hcb
          rintro e9 w2 ⟨rfl, hC1⟩
          clear a0 a1 a2 b0 b1 b2
          replace HBA := Lib.hid (HBA.out.fr hC1)
          replace HBB := Lib.hid (HBB.out.fr hC1)
          replace HC := Lib.hid (HC.out.tr hC1)
          have a0 := HBA.out.a0
          have a1 := HBA.out.a1
          have a2 := HBA.out.a2
          have b0 := HBB.out.a0
          have b1 := HBB.out.a1
          have b2 := HBB.out.a2
          clear hC1
          go_wp2_with fail
          refine (hkn _).mono ?_
          clear hkn
          rintro e9 w3 ⟨rfl, rfl⟩
          go_wp2
          go_ret2
          exact ⟨_, rfl, HC.out, fun h => absurd h HK.out, fun _ => rfl⟩
end Go.Proofs.Ytjmlekdgipinfaa
