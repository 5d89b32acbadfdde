/- mold's Go, walked. -/
import Derived.Test.YtnjnajbdpaaikaaArG
namespace Go.Proofs.Ytnjnajbdpaaikaa
open Go.RowKit Go.Shelf

theorem badL_not {L : List Ar} {o p : Int} (_h0 : o ≠ -1) (h1 : ¬ o < 0) (h2 : ¬ (L.length : Int) ≤ o) (h3 : ¬ p < 0) (h4 : ¬ ((L.getD o.toNat noA).e.length : Int) ≤ p) : badL L (o, p) = false := by
  unfold badL
  simp only [decide_eq_false h1, decide_eq_false h2, decide_eq_false h3, decide_eq_false h4, Bool.or_false, Bool.and_false]
theorem badL_of {L : List Ar} {o p : Int} (h0 : o ≠ -1) (h : o < 0 ∨ (L.length : Int) ≤ o ∨ p < 0 ∨ ((L.getD o.toNat noA).e.length : Int) ≤ p) : badL L (o, p) = true := by
  unfold badL
  rw [show (o == -1) = false from beq_eq_false_iff_ne.2 h0]
  rcases h with h | h | h | h <;> simp only [decide_eq_true h, Bool.true_or, Bool.or_true, Bool.not_false, Bool.and_true]
theorem any_take {α : Type} (p : α → Bool) (g : List α) (j : Nat) (h : j < g.length) (h1 : (g.take j).any p = false) (h2 : p g[j] = false) : (g.take (j + 1)).any p = false := by
  rw [List.take_succ_eq_append_getElem h, List.any_append, h1]
  simp [h2]
theorem own_nm {w : World} {base t : Nat} {v : Value} {xs : List Int} (h : Own w base t v xs) : ∃ ao L c, v = .slice ao L c ∧ Hid (L = xs.length) := owns_name h
set_option maxRecDepth 100000 in
set_option maxHeartbeats 4000000 in
theorem mgo_any (v u : Value) (k : Int) (s : List Int) (g : List (Int × Int)) (D : Nat → Prop) (L : List Ar) (w : World) (hW : WayAt w D v ⟨s, g, 0⟩) (hsh : shB s = true) (hgl : (g.length : Int) = prodL s) (hLs : LsA w u L) (hes : ∀ A ∈ L, A.e.length ≤ 1000000) :
    Calls Try.prog 41 #[v, .int .i64 k, u] w (GaveAE w (goA k s g L) (goN k s g L)) := by
  obtain ⟨_, vs, gf, lb, rfl, hs, _, eg, hf⟩ := hW.resolve_right (fun h => h.1 rfl)
  simp only at hs hf
  obtain ⟨sa, cs, rfl, _⟩ := hs.form
  obtain ⟨la, cL, rfl, hLs⟩ := hLs
  obtain ⟨i0, hi, hz0, hz1, hz2⟩ := info_parts info_long
  have hs4 := (shB_iff.1 hsh).1
  have hgb : (g.length : Int) ≤ 4096 := by rw [hgl]; exact (shB_iff.1 hsh).2.2
  have hC0 := ((Chg.refl (fun _ => False) w).alloc (.cells #[.slice sa s.length cs, .func (.func gf) #[] lb] 52)).alloc (.cells #[.int .i64 0, .slice none 0 0, .slice none 0 0] 25)
  have hB0 := Bx.new (w.alloc (.cells #[.slice sa s.length cs, .func (.func gf) #[] lb] 52)) (.int .i64 0) (.slice none 0 0) (.slice none 0 0) 25
  rw [World.size_alloc] at hB0
  have y0 := alloc_cell (new_cell w #[.slice sa s.length cs, .func (.func gf) #[] lb] 52 (i := 0) rfl) (.cells #[.int .i64 0, .slice none 0 0, .slice none 0 0] 25)
  have y1 := alloc_cell (new_cell w #[.slice sa s.length cs, .func (.func gf) #[] lb] 52 (i := 1) rfl) (.cells #[.int .i64 0, .slice none 0 0, .slice none 0 0] 25)
  have hcnt := count_any _ s _ (hs.fr hC0)
  unfold GaveC at hcnt
  rw [cntN_ok hsh, cntE_ok hsh, ← hgl] at hcnt
  have hnil := func_nil gf lb
  have HES := Lib.hid hes
  have HLS := Lib.hid hLs
  have HF := Lib.hid hf
  have HSH := Lib.hid hs
  clear hes hLs hf hs hsh hgl
  by_cases hk : k = 1
  · subst hk
    go_enter Try.func41, Try.ntmps41
    go_wp2_with fail
    refine hcnt.mono ?_
    clear hcnt
    rintro e9 w1 ⟨rfl, hw1⟩
    rw [← hw1] at hC0 hB0 y0 y1
    clear hw1
    have hcl := cloneI_any _ s w1 (HSH.out.fr hC0) (by omega)
    have hs1 : w.heap.size + 2 ≤ w1.heap.size := by have := hB0.lt; omega
    go_wp2_with fail
    refine hcl.mono ?_
    clear hcl
    rintro e9 w2 ⟨v2, rfl, ho2, hC2⟩
    obtain ⟨a2, c2', rfl⟩ := own_name ho2
    have hs2 := hC2.size
    go_wp2
    have hM0 : Mak w1 (w2.alloc (.cells #[.int .i64 1, .slice a2 s.length c2', .slice none 0 0] 25)) w2.heap.size w1.heap.size (w2.alloc (.cells #[.int .i64 1, .slice a2 s.length c2', .slice none 0 0] 25)).heap.size 1 (.slice a2 s.length c2') (.slice none 0 0) s [] :=
      ⟨Bx.new w2 _ _ _ _, ho2.alloc _, Own.nil _ _ _, hC2.alloc _, hs2, by simp, fun q hq => by have := (ho2.lt q hq).2; rw [World.size_alloc]; omega⟩
    obtain ⟨W0, hW0⟩ : ∃ W0, w2.alloc (.cells #[.int .i64 1, .slice a2 s.length c2', .slice none 0 0] 25) = W0 := ⟨_, rfl⟩
    have hsz : W0.heap.size = w2.heap.size + 1 := by rw [← hW0]; simp
    rw [hW0] at hM0 ⊢
    clear hW0
    have HSZ := Lib.hid hsz
    clear hsz ho2
    go_loopw [43] (fun i wr => ∃ j : Nat, j ≤ g.length ∧ i = .int .i64 j ∧ (∃ v, Mak w1 wr w2.heap.size w1.heap.size W0.heap.size 1 (.slice a2 s.length c2') v s ((g.take j).map (pickL 1 L))) ∧ (g.take j).any (badL L) = false) (fun i _ => g.length - (intOf i).toNat)
    case atStart => exact ⟨0, Nat.zero_le _, rfl, ⟨_, hM0⟩, rfl⟩
    case round =>
      obtain ⟨j, hj, rfl, ⟨v, hM⟩, hnb⟩ := hrel
      clear hM0
      obtain ⟨xs, hxs⟩ : ∃ xs, (g.take j).map (pickL 1 L) = xs := ⟨_, rfl⟩
      have hxl : xs.length ≤ 1000000 := by rw [← hxs]; simp; omega
      rw [hxs] at hM
      obtain ⟨al, Ll, cl, rfl, hL⟩ := own_nm hM.el
      have hch := hM.ch
      have hB1 := hB0
      by_cases hlt : j < g.length
      · have hlt' : (j : Int) < (g.length : Int) := by omega
        have hkw : IntKind.i64.wrap ((j : Int) + 1) = (j : Int) + 1 := IntWalk.i64_in _ (by omega)
        have HT := Lib.hid (take_map (pickL 1 L) g j hlt)
        rw [hxs] at HT
        have HMEM := Lib.hid (List.getElem_mem hlt)
        have hnx := any_take (badL L) g j hlt hnb
        have hcall := HF.out j g[j] (List.getElem?_eq_getElem hlt) wr (OldC.of (hC0.tr hch))
        have y1' := hch.cell y1 id
        generalize g[j] = x at *
        obtain ⟨o, p⟩ := x
        simp only at hcall
        clear hxs hnb
        go_wp2_with fail
        refine hcall.mono ?_
        clear hcall y1'
        rintro e9 w3 ⟨rfl, hC3⟩
        have c2 := hC3.cell hM.bx.c2 id
        have f2 := hC3.frozen hM.bx.c2 hM.bx.f2 id
        have HM3 := Lib.hid (hM.fr hC3)
        have HLS3 := Lib.hid ((hC0.tr hch).tr hC3)
        have hw3 : w2.heap.size + 1 ≤ w3.heap.size := by have := HM3.out.bx.lt; omega
        have hblt : w2.heap.size < w3.heap.size := hw3
        have hw4 : W0.heap.size ≤ w3.heap.size := by have := HSZ.out; omega
        by_cases ho : o = -1
        · subst ho
          have HNX := Lib.hid (hnx rfl)
          rw [show pickL 1 L (-1, p) = fillN 1 from if_pos rfl] at HT
          clear hnx hM hch hC3 hB1
          have hfl := fill_any 1
          rw [show fillN 1 = 0 from rfl] at HT hfl
          go_wp2_with fail
          go_region_law (first
            | (refine step_append_own (by rfl) (.tmp 70) (.tmp 73) 23 (by rfl) W0.heap.size 2 i0 (.int .i64 0) 1 8 Try.underlying23 hi hz0 hz1 hz2 rfl (by decide) (.slice al Ll cl) xs.length (xs.map I) (by simp [Act.eval]) (HM3.out.el.alloc _) (some ⟨w3.heap.size, 0, none⟩) 1 1 [.int .i64 0] (by simp [Act.eval]) rfl (fun j u hu => ⟨_, rfl, cell_one_new w3 _ _ j u hu⟩) (by simp [Value.oneCell']) (by unfold maxLen; omega) (by omega) (by simp; omega) ?_; intro v2 w4 hown2 hg2 _ hO2; obtain ⟨⟨hd1, hd2⟩, hM4⟩ := HM3.out.more (((Chg.refl _ w3).alloc _).drew) hg2 hown2 rfl; obtain ⟨al2, L2, cl2, rfl, hL2⟩ := own_nm hM4.el)
            | (go_simp; go_at_call 82; (with_reducible refine (hfl _).mono ?_); rintro e9 w9 ⟨rfl, rfl⟩))
          all_goals
            go_wp2
            go_roundw
            case rel => exact ⟨j + 1, hlt, by go_num, ⟨_, by rw [HT.out]; exact hM4⟩, HNX.out⟩
            case measure => exact fit_meas j g.length hlt
        · have b0 : (o == -1) = false := beq_eq_false_iff_ne.2 ho
          by_cases ho0 : o < 0
          · skip
            have HR := Lib.hid (goN_bad (k := 1) (s := s) (L := L) _ HMEM.out (badL_of ho (.inl ho0)))
            have HA := Lib.hid (goA_no HR.out (by decide))
            obtain ⟨z0, z1, z2, x0', x1', x2'⟩ := (hB1.fr hch).fr hC3
            obtain ⟨⟨g0, g1⟩, g2⟩ := set3_cells (.int .i64 0) (.slice none 0 0) (.slice none 0 0) z0 z1 z2
            have HC := Lib.hid ((hC0.tr hM.ch).tr hC3)
            clear hC3 hch hM hnx c2 f2
            go_wp2
            simp [bodyPost, results, Try.results41, go_sem, g0, g1, g2]
            rw [HR.out, HA.out]
            exact leaveNo (Nat.le_succ _) HC.out
          · by_cases hoL : (L.length : Int) ≤ o
            · skip
              have HR := Lib.hid (goN_bad (k := 1) (s := s) (L := L) _ HMEM.out (badL_of ho (.inr (.inl hoL))))
              have HA := Lib.hid (goA_no HR.out (by decide))
              obtain ⟨z0, z1, z2, x0', x1', x2'⟩ := (hB1.fr hch).fr hC3
              obtain ⟨⟨g0, g1⟩, g2⟩ := set3_cells (.int .i64 0) (.slice none 0 0) (.slice none 0 0) z0 z1 z2
              have HC := Lib.hid ((hC0.tr hM.ch).tr hC3)
              clear hC3 hch hM hnx c2 f2
              go_wp2
              simp [bodyPost, results, Try.results41, go_sem, g0, g1, g2]
              rw [HR.out, HA.out]
              exact leaveNo (Nat.le_succ _) HC.out
            · obtain ⟨q, rfl⟩ := Int.eq_ofNat_of_zero_le (show 0 ≤ o by omega)
              have q0 : q < L.length := by omega
              have q1 : (q : Int) < (L.length : Int) := by omega
              have q2 : (0 : Int) ≤ (q : Int) := by omega
              by_cases hp0 : p < 0
              · skip
                have HR := Lib.hid (goN_bad (k := 1) (s := s) (L := L) _ HMEM.out (badL_of ho (.inr (.inr (.inl hp0)))))
                have HA := Lib.hid (goA_no HR.out (by decide))
                obtain ⟨z0, z1, z2, x0', x1', x2'⟩ := (hB1.fr hch).fr hC3
                obtain ⟨⟨g0, g1⟩, g2⟩ := set3_cells (.int .i64 0) (.slice none 0 0) (.slice none 0 0) z0 z1 z2
                have HC := Lib.hid ((hC0.tr hM.ch).tr hC3)
                clear hC3 hch hM hnx c2 f2
                go_wp2
                simp [bodyPost, results, Try.results41, go_sem, g0, g1, g2]
                rw [HR.out, HA.out]
                exact leaveNo (Nat.le_succ _) HC.out
              · obtain ⟨bL, oL, e2, ve, hce, hLe⟩ := HLS.out q q0
                have hel1 := HES.out L[q] (List.getElem_mem q0)
                have HD := Lib.hid (show L.getD q noA = L[q] by simp [List.getD, List.getElem?_eq_getElem q0])
                generalize L[q] = A at *
                subst e2
                replace hLe := hLe.fr HLS3.out
                replace hce := HLS3.out.cell hce id
                obtain ⟨ae, ce, rfl, _⟩ := hLe.form
                by_cases hpL : (A.e.length : Int) ≤ p
                · skip
                  have HR := Lib.hid (goN_bad (k := 1) (s := s) (L := L) _ HMEM.out (badL_of ho (.inr (.inr (.inr (by rw [Int.toNat_natCast, HD.out]; exact hpL))))))
                  have HA := Lib.hid (goA_no HR.out (by decide))
                  obtain ⟨z0, z1, z2, x0', x1', x2'⟩ := (hB1.fr hch).fr hC3
                  obtain ⟨⟨g0, g1⟩, g2⟩ := set3_cells (.int .i64 0) (.slice none 0 0) (.slice none 0 0) z0 z1 z2
                  have HC := Lib.hid ((hC0.tr hM.ch).tr hC3)
                  clear hC3 hch hM hnx c2 f2
                  go_wp2
                  simp [bodyPost, results, Try.results41, go_sem, g0, g1, g2]
                  rw [HR.out, HA.out]
                  exact leaveNo (Nat.le_succ _) HC.out
                · obtain ⟨r, rfl⟩ := Int.eq_ofNat_of_zero_le (show 0 ≤ p by omega)
                  have r0 : r < A.e.length := by omega
                  have r1 : (r : Int) < (A.e.length : Int) := by omega
                  have r2 : (0 : Int) ≤ (r : Int) := by omega
                  obtain ⟨be, oe, ce', e3, hel⟩ := hLe.at r0
                  injection e3 with e3 e4 e5
                  clear e4 e5
                  subst e3
                  have HNX := Lib.hid (hnx (badL_not ho ho0 hoL hp0 (by rw [Int.toNat_natCast, HD.out]; exact hpL)))
                  have hpk : pickL 1 L ((q : Int), (r : Int)) = A.e[r] := by
                    unfold pickL
                    rw [if_neg ho, Int.toNat_natCast, Int.toNat_natCast, HD.out]
                    simp [List.getD, List.getElem?_eq_getElem r0]
                  rw [hpk] at HT
                  generalize A.e[r] = y at *
                  have hblL : bL < w3.heap.size := cell_lt hce
                  have hble : be < w3.heap.size := cell_lt hel
                  clear hnx hM hch hC3 hB1 hpk hLe ho hp0 hpL
                  go_wp2_with fail
                  go_region_law (refine step_append_own (by rfl) (.tmp 54) (.tmp 63) 23 (by rfl) W0.heap.size 2 i0 (.int .i64 0) 1 8 Try.underlying23 hi hz0 hz1 hz2 rfl (by decide) (.slice al Ll cl) xs.length (xs.map I) (by simp [Act.eval]) (HM3.out.el.alloc _) (some ⟨w3.heap.size, 0, none⟩) 1 1 [.int .i64 y] (by simp [Act.eval]) rfl (fun j u hu => ⟨_, rfl, cell_one_new w3 _ _ j u hu⟩) (by simp [Value.oneCell']) (by unfold maxLen; omega) (by omega) (by simp; omega) ?_; intro v2 w4 hown2 hg2 _ hO2; obtain ⟨⟨hd1, hd2⟩, hM4⟩ := HM3.out.more (((Chg.refl _ w3).alloc _).drew) hg2 hown2 rfl; obtain ⟨al2, L2, cl2, rfl, hL2⟩ := own_nm hM4.el)
                  all_goals
                    go_wp2
                    go_roundw
                    case rel => exact ⟨j + 1, hlt, by go_num, ⟨_, by rw [HT.out]; exact hM4⟩, HNX.out⟩
                    case measure => exact fit_meas j g.length hlt
      · obtain rfl : j = g.length := by omega
        rw [List.take_length] at hxs hnb
        have HX := Lib.hid hxs
        have HNB := Lib.hid hnb
        have c0 := hM.bx.c0
        have c1 := hM.bx.c1
        have c2 := hM.bx.c2
        have hck := check_any _ ⟨1, s, xs⟩ wr (Ara.mk (k := 1) hM.sh.ls hM.el.ls) hxl
        have HM := Lib.hid hM
        clear hxs hnb hM hch
        go_wp2_with fail
        refine hck.mono ?_
        clear hck
        rintro e9 w3 ⟨rfl, hC3⟩
        have hM3 := HM.out.fr hC3
        obtain ⟨z0, z1, z2, x0', x1', x2'⟩ := hB1.fr hM3.ch
        have hgn : goN 1 s g L = chkE ⟨1, s, xs⟩ := by unfold goN; rw [if_pos (by simp), HNB.out, HX.out]; rfl
        cases hc : chkB ⟨1, s, xs⟩ with
        | true =>
          have hE : chkE ⟨1, s, xs⟩ = 0 := by unfold chkE; rw [hc]; rfl
          have HR := Lib.hid (hgn.trans hE)
          have HA := Lib.hid ((goA_ok HR.out).trans (by rw [HX.out]))
          rw [hE]
          replace c0 := hC3.cell c0 id
          replace c1 := hC3.cell c1 id
          replace c2 := hC3.cell c2 id
          obtain ⟨⟨g0, g1⟩, g2⟩ := set3_cells (.int .i64 1) (.slice a2 s.length c2') (.slice al Ll cl) z0 z1 z2
          have HM3 := Lib.hid hM3
          clear hM3 hgn hE hc hC3
          go_wp2
          simp [bodyPost, results, Try.results41, go_sem, g0, g1, g2]
          rw [HR.out, HA.out]
          exact leaveAE HM3.out.sh HM3.out.el (Nat.le_succ _) (by omega) (by have := HSZ.out; omega) (hC0.tr HM3.out.ch)
        | false =>
          have hE : chkE ⟨1, s, xs⟩ = 110 := by unfold chkE; rw [hc]; rfl
          have HR := Lib.hid (hgn.trans hE)
          have HA := Lib.hid (goA_no HR.out (by decide))
          rw [hE]
          obtain ⟨⟨g0, g1⟩, g2⟩ := set3_cells (.int .i64 0) (.slice none 0 0) (.slice none 0 0) z0 z1 z2
          have HC := Lib.hid (hC0.tr hM3.ch)
          clear hM3 hgn hE hc hC3 c0 c1 c2
          go_wp2
          simp [bodyPost, results, Try.results41, go_sem, g0, g1, g2]
          rw [HR.out, HA.out]
          exact leaveNo (Nat.le_succ _) HC.out
  · by_cases hk2 : k = 2
    · subst hk2
      clear hk
      go_enter Try.func41, Try.ntmps41
      go_wp2_with fail
      refine hcnt.mono ?_
      clear hcnt
      rintro e9 w1 ⟨rfl, hw1⟩
      rw [← hw1] at hC0 hB0 y0 y1
      clear hw1
      have hcl := cloneI_any _ s w1 (HSH.out.fr hC0) (by omega)
      have hs1 : w.heap.size + 2 ≤ w1.heap.size := by have := hB0.lt; omega
      go_wp2_with fail
      refine hcl.mono ?_
      clear hcl
      rintro e9 w2 ⟨v2, rfl, ho2, hC2⟩
      obtain ⟨a2, c2', rfl⟩ := own_name ho2
      have hs2 := hC2.size
      go_wp2
      have hM0 : Mak w1 (w2.alloc (.cells #[.int .i64 2, .slice a2 s.length c2', .slice none 0 0] 25)) w2.heap.size w1.heap.size (w2.alloc (.cells #[.int .i64 2, .slice a2 s.length c2', .slice none 0 0] 25)).heap.size 2 (.slice a2 s.length c2') (.slice none 0 0) s [] :=
        ⟨Bx.new w2 _ _ _ _, ho2.alloc _, Own.nil _ _ _, hC2.alloc _, hs2, by simp, fun q hq => by have := (ho2.lt q hq).2; rw [World.size_alloc]; omega⟩
      obtain ⟨W0, hW0⟩ : ∃ W0, w2.alloc (.cells #[.int .i64 2, .slice a2 s.length c2', .slice none 0 0] 25) = W0 := ⟨_, rfl⟩
      have hsz : W0.heap.size = w2.heap.size + 1 := by rw [← hW0]; simp
      rw [hW0] at hM0 ⊢
      clear hW0
      have HSZ := Lib.hid hsz
      clear hsz ho2
      go_loopw [43] (fun i wr => ∃ j : Nat, j ≤ g.length ∧ i = .int .i64 j ∧ (∃ v, Mak w1 wr w2.heap.size w1.heap.size W0.heap.size 2 (.slice a2 s.length c2') v s ((g.take j).map (pickL 2 L))) ∧ (g.take j).any (badL L) = false) (fun i _ => g.length - (intOf i).toNat)
      case atStart => exact ⟨0, Nat.zero_le _, rfl, ⟨_, hM0⟩, rfl⟩
      case round =>
        obtain ⟨j, hj, rfl, ⟨v, hM⟩, hnb⟩ := hrel
        clear hM0
        obtain ⟨xs, hxs⟩ : ∃ xs, (g.take j).map (pickL 2 L) = xs := ⟨_, rfl⟩
        have hxl : xs.length ≤ 1000000 := by rw [← hxs]; simp; omega
        rw [hxs] at hM
        obtain ⟨al, Ll, cl, rfl, hL⟩ := own_nm hM.el
        have hch := hM.ch
        have hB1 := hB0
        by_cases hlt : j < g.length
        · have hlt' : (j : Int) < (g.length : Int) := by omega
          have hkw : IntKind.i64.wrap ((j : Int) + 1) = (j : Int) + 1 := IntWalk.i64_in _ (by omega)
          have HT := Lib.hid (take_map (pickL 2 L) g j hlt)
          rw [hxs] at HT
          have HMEM := Lib.hid (List.getElem_mem hlt)
          have hnx := any_take (badL L) g j hlt hnb
          have hcall := HF.out j g[j] (List.getElem?_eq_getElem hlt) wr (OldC.of (hC0.tr hch))
          have y1' := hch.cell y1 id
          generalize g[j] = x at *
          obtain ⟨o, p⟩ := x
          simp only at hcall
          clear hxs hnb
          go_wp2_with fail
          refine hcall.mono ?_
          clear hcall y1'
          rintro e9 w3 ⟨rfl, hC3⟩
          have c2 := hC3.cell hM.bx.c2 id
          have f2 := hC3.frozen hM.bx.c2 hM.bx.f2 id
          have HM3 := Lib.hid (hM.fr hC3)
          have HLS3 := Lib.hid ((hC0.tr hch).tr hC3)
          have hw3 : w2.heap.size + 1 ≤ w3.heap.size := by have := HM3.out.bx.lt; omega
          have hblt : w2.heap.size < w3.heap.size := hw3
          have hw4 : W0.heap.size ≤ w3.heap.size := by have := HSZ.out; omega
          by_cases ho : o = -1
          · subst ho
            have HNX := Lib.hid (hnx rfl)
            rw [show pickL 2 L (-1, p) = fillN 2 from if_pos rfl] at HT
            clear hnx hM hch hC3 hB1
            have hfl := fill_any 2
            rw [show fillN 2 = 32 from rfl] at HT hfl
            go_wp2_with fail
            go_region_law (first
              | (refine step_append_own (by rfl) (.tmp 70) (.tmp 73) 23 (by rfl) W0.heap.size 2 i0 (.int .i64 0) 1 8 Try.underlying23 hi hz0 hz1 hz2 rfl (by decide) (.slice al Ll cl) xs.length (xs.map I) (by simp [Act.eval]) (HM3.out.el.alloc _) (some ⟨w3.heap.size, 0, none⟩) 1 1 [.int .i64 32] (by simp [Act.eval]) rfl (fun j u hu => ⟨_, rfl, cell_one_new w3 _ _ j u hu⟩) (by simp [Value.oneCell']) (by unfold maxLen; omega) (by omega) (by simp; omega) ?_; intro v2 w4 hown2 hg2 _ hO2; obtain ⟨⟨hd1, hd2⟩, hM4⟩ := HM3.out.more (((Chg.refl _ w3).alloc _).drew) hg2 hown2 rfl; obtain ⟨al2, L2, cl2, rfl, hL2⟩ := own_nm hM4.el)
              | (go_simp; go_at_call 82; (with_reducible refine (hfl _).mono ?_); rintro e9 w9 ⟨rfl, rfl⟩))
            all_goals
              go_wp2
              go_roundw
              case rel => exact ⟨j + 1, hlt, by go_num, ⟨_, by rw [HT.out]; exact hM4⟩, HNX.out⟩
              case measure => exact fit_meas j g.length hlt
          · have b0 : (o == -1) = false := beq_eq_false_iff_ne.2 ho
            by_cases ho0 : o < 0
            · skip
              have HR := Lib.hid (goN_bad (k := 2) (s := s) (L := L) _ HMEM.out (badL_of ho (.inl ho0)))
              have HA := Lib.hid (goA_no HR.out (by decide))
              obtain ⟨z0, z1, z2, x0', x1', x2'⟩ := (hB1.fr hch).fr hC3
              obtain ⟨⟨g0, g1⟩, g2⟩ := set3_cells (.int .i64 0) (.slice none 0 0) (.slice none 0 0) z0 z1 z2
              have HC := Lib.hid ((hC0.tr hM.ch).tr hC3)
              clear hC3 hch hM hnx c2 f2
              go_wp2
              simp [bodyPost, results, Try.results41, go_sem, g0, g1, g2]
              rw [HR.out, HA.out]
              exact leaveNo (Nat.le_succ _) HC.out
            · by_cases hoL : (L.length : Int) ≤ o
              · skip
                have HR := Lib.hid (goN_bad (k := 2) (s := s) (L := L) _ HMEM.out (badL_of ho (.inr (.inl hoL))))
                have HA := Lib.hid (goA_no HR.out (by decide))
                obtain ⟨z0, z1, z2, x0', x1', x2'⟩ := (hB1.fr hch).fr hC3
                obtain ⟨⟨g0, g1⟩, g2⟩ := set3_cells (.int .i64 0) (.slice none 0 0) (.slice none 0 0) z0 z1 z2
                have HC := Lib.hid ((hC0.tr hM.ch).tr hC3)
                clear hC3 hch hM hnx c2 f2
                go_wp2
                simp [bodyPost, results, Try.results41, go_sem, g0, g1, g2]
                rw [HR.out, HA.out]
                exact leaveNo (Nat.le_succ _) HC.out
              · obtain ⟨q, rfl⟩ := Int.eq_ofNat_of_zero_le (show 0 ≤ o by omega)
                have q0 : q < L.length := by omega
                have q1 : (q : Int) < (L.length : Int) := by omega
                have q2 : (0 : Int) ≤ (q : Int) := by omega
                by_cases hp0 : p < 0
                · skip
                  have HR := Lib.hid (goN_bad (k := 2) (s := s) (L := L) _ HMEM.out (badL_of ho (.inr (.inr (.inl hp0)))))
                  have HA := Lib.hid (goA_no HR.out (by decide))
                  obtain ⟨z0, z1, z2, x0', x1', x2'⟩ := (hB1.fr hch).fr hC3
                  obtain ⟨⟨g0, g1⟩, g2⟩ := set3_cells (.int .i64 0) (.slice none 0 0) (.slice none 0 0) z0 z1 z2
                  have HC := Lib.hid ((hC0.tr hM.ch).tr hC3)
                  clear hC3 hch hM hnx c2 f2
                  go_wp2
                  simp [bodyPost, results, Try.results41, go_sem, g0, g1, g2]
                  rw [HR.out, HA.out]
                  exact leaveNo (Nat.le_succ _) HC.out
                · obtain ⟨bL, oL, e2, ve, hce, hLe⟩ := HLS.out q q0
                  have hel1 := HES.out L[q] (List.getElem_mem q0)
                  have HD := Lib.hid (show L.getD q noA = L[q] by simp [List.getD, List.getElem?_eq_getElem q0])
                  generalize L[q] = A at *
                  subst e2
                  replace hLe := hLe.fr HLS3.out
                  replace hce := HLS3.out.cell hce id
                  obtain ⟨ae, ce, rfl, _⟩ := hLe.form
                  by_cases hpL : (A.e.length : Int) ≤ p
                  · skip
                    have HR := Lib.hid (goN_bad (k := 2) (s := s) (L := L) _ HMEM.out (badL_of ho (.inr (.inr (.inr (by rw [Int.toNat_natCast, HD.out]; exact hpL))))))
                    have HA := Lib.hid (goA_no HR.out (by decide))
                    obtain ⟨z0, z1, z2, x0', x1', x2'⟩ := (hB1.fr hch).fr hC3
                    obtain ⟨⟨g0, g1⟩, g2⟩ := set3_cells (.int .i64 0) (.slice none 0 0) (.slice none 0 0) z0 z1 z2
                    have HC := Lib.hid ((hC0.tr hM.ch).tr hC3)
                    clear hC3 hch hM hnx c2 f2
                    go_wp2
                    simp [bodyPost, results, Try.results41, go_sem, g0, g1, g2]
                    rw [HR.out, HA.out]
                    exact leaveNo (Nat.le_succ _) HC.out
                  · obtain ⟨r, rfl⟩ := Int.eq_ofNat_of_zero_le (show 0 ≤ p by omega)
                    have r0 : r < A.e.length := by omega
                    have r1 : (r : Int) < (A.e.length : Int) := by omega
                    have r2 : (0 : Int) ≤ (r : Int) := by omega
                    obtain ⟨be, oe, ce', e3, hel⟩ := hLe.at r0
                    injection e3 with e3 e4 e5
                    clear e4 e5
                    subst e3
                    have HNX := Lib.hid (hnx (badL_not ho ho0 hoL hp0 (by rw [Int.toNat_natCast, HD.out]; exact hpL)))
                    have hpk : pickL 2 L ((q : Int), (r : Int)) = A.e[r] := by
                      unfold pickL
                      rw [if_neg ho, Int.toNat_natCast, Int.toNat_natCast, HD.out]
                      simp [List.getD, List.getElem?_eq_getElem r0]
                    rw [hpk] at HT
                    generalize A.e[r] = y at *
                    have hblL : bL < w3.heap.size := cell_lt hce
                    have hble : be < w3.heap.size := cell_lt hel
                    clear hnx hM hch hC3 hB1 hpk hLe ho hp0 hpL
                    go_wp2_with fail
                    go_region_law (refine step_append_own (by rfl) (.tmp 54) (.tmp 63) 23 (by rfl) W0.heap.size 2 i0 (.int .i64 0) 1 8 Try.underlying23 hi hz0 hz1 hz2 rfl (by decide) (.slice al Ll cl) xs.length (xs.map I) (by simp [Act.eval]) (HM3.out.el.alloc _) (some ⟨w3.heap.size, 0, none⟩) 1 1 [.int .i64 y] (by simp [Act.eval]) rfl (fun j u hu => ⟨_, rfl, cell_one_new w3 _ _ j u hu⟩) (by simp [Value.oneCell']) (by unfold maxLen; omega) (by omega) (by simp; omega) ?_; intro v2 w4 hown2 hg2 _ hO2; obtain ⟨⟨hd1, hd2⟩, hM4⟩ := HM3.out.more (((Chg.refl _ w3).alloc _).drew) hg2 hown2 rfl; obtain ⟨al2, L2, cl2, rfl, hL2⟩ := own_nm hM4.el)
                    all_goals
                      go_wp2
                      go_roundw
                      case rel => exact ⟨j + 1, hlt, by go_num, ⟨_, by rw [HT.out]; exact hM4⟩, HNX.out⟩
                      case measure => exact fit_meas j g.length hlt
        · obtain rfl : j = g.length := by omega
          rw [List.take_length] at hxs hnb
          have HX := Lib.hid hxs
          have HNB := Lib.hid hnb
          have c0 := hM.bx.c0
          have c1 := hM.bx.c1
          have c2 := hM.bx.c2
          have hck := check_any _ ⟨2, s, xs⟩ wr (Ara.mk (k := 2) hM.sh.ls hM.el.ls) hxl
          have HM := Lib.hid hM
          clear hxs hnb hM hch
          go_wp2_with fail
          refine hck.mono ?_
          clear hck
          rintro e9 w3 ⟨rfl, hC3⟩
          have hM3 := HM.out.fr hC3
          obtain ⟨z0, z1, z2, x0', x1', x2'⟩ := hB1.fr hM3.ch
          have hgn : goN 2 s g L = chkE ⟨2, s, xs⟩ := by unfold goN; rw [if_pos (by simp), HNB.out, HX.out]; rfl
          cases hc : chkB ⟨2, s, xs⟩ with
          | true =>
            have hE : chkE ⟨2, s, xs⟩ = 0 := by unfold chkE; rw [hc]; rfl
            have HR := Lib.hid (hgn.trans hE)
            have HA := Lib.hid ((goA_ok HR.out).trans (by rw [HX.out]))
            rw [hE]
            replace c0 := hC3.cell c0 id
            replace c1 := hC3.cell c1 id
            replace c2 := hC3.cell c2 id
            obtain ⟨⟨g0, g1⟩, g2⟩ := set3_cells (.int .i64 2) (.slice a2 s.length c2') (.slice al Ll cl) z0 z1 z2
            have HM3 := Lib.hid hM3
            clear hM3 hgn hE hc hC3
            go_wp2
            simp [bodyPost, results, Try.results41, go_sem, g0, g1, g2]
            rw [HR.out, HA.out]
            exact leaveAE HM3.out.sh HM3.out.el (Nat.le_succ _) (by omega) (by have := HSZ.out; omega) (hC0.tr HM3.out.ch)
          | false =>
            have hE : chkE ⟨2, s, xs⟩ = 110 := by unfold chkE; rw [hc]; rfl
            have HR := Lib.hid (hgn.trans hE)
            have HA := Lib.hid (goA_no HR.out (by decide))
            rw [hE]
            obtain ⟨⟨g0, g1⟩, g2⟩ := set3_cells (.int .i64 0) (.slice none 0 0) (.slice none 0 0) z0 z1 z2
            have HC := Lib.hid (hC0.tr hM3.ch)
            clear hM3 hgn hE hc hC3 c0 c1 c2
            go_wp2
            simp [bodyPost, results, Try.results41, go_sem, g0, g1, g2]
            rw [HR.out, HA.out]
            exact leaveNo (Nat.le_succ _) HC.out
    · have b1 : (k != 1) = true := bne_iff_ne.2 hk
      have b2 : (k != 2) = true := bne_iff_ne.2 hk2
      have HR := Lib.hid (show goN k s g L = 130 from if_neg (fun h => h.elim hk hk2))
      have HA := Lib.hid (goA_no HR.out (by decide))
      clear hk hk2
      go_enter Try.func41, Try.ntmps41
      go_wp2_with fail
      refine hcnt.mono ?_
      clear hcnt
      rintro e9 w1 ⟨rfl, hw1⟩
      rw [← hw1] at hC0 hB0 y0 y1
      clear hw1
      obtain ⟨z0, z1, z2, x0', x1', x2'⟩ := hB0
      obtain ⟨⟨g0, g1⟩, g2⟩ := set3_cells (.int .i64 0) (.slice none 0 0) (.slice none 0 0) z0 z1 z2
      go_wp2
      simp [bodyPost, results, Try.results41, go_sem, g0, g1, g2]
      rw [HR.out, HA.out]
      exact leaveNo (Nat.le_succ _) hC0
end Go.Proofs.Ytnjnajbdpaaikaa
