/- The document's rotate, walked. -/
import Derived.Test.YtmmbdhfljabefaaTwD
import Derived.StillTailTactics
namespace Go.Proofs.Ytmmbdhfljabefaa
open Go.RowKit Go.Shelf

theorem rotE_of {k : Int} {t e s : List Int} (hsh : shB s = true) (hcb : chkB ⟨k, t, e⟩ = true) : rotE ⟨k, t, e⟩ s = (if t ≠ [] ∧ (t.length : Int) ≠ (s.length : Int) - 1 then 3 else if t ≠ [] ∧ t ≠ s.take (s.length - 1) then 4 else if k = 2 then 5 else 0) := by
  unfold rotE
  rw [hsh, hcb]
  rfl
set_option maxRecDepth 100000 in
set_option maxHeartbeats 4000000 in
theorem r14rot_any (u v : Value) (L : Ar) (s : List Int) (w : World) (hL : Ara w u L) (hS : Ls w v s) (hsl : s.length ≤ 1000000) (hle : L.e.length ≤ 1000000) (hls : L.s.length ≤ 1000000) : Calls Try.prog 21 #[u, v] w (GaveG w (rotW L s)) := by
  obtain ⟨k, t, e⟩ := L
  have hL' := hL
  obtain ⟨vt, ve, hv, ht, he⟩ := hL
  simp only at hv ht he hle hls
  subst hv
  obtain ⟨ta, ct, rfl, _⟩ := ht.form
  obtain ⟨ae, ce, rfl, _⟩ := he.form
  obtain ⟨ao, c, rfl, hfrm⟩ := hS.form
  clear hfrm
  have hC0 := ((Chg.refl (fun _ => False) w).alloc (.cells #[.int .i64 k, .slice ta t.length ct, .slice ae e.length ce] 25)).alloc (.cells #[.slice none 0 0, .slice none 0 0, .slice none 0 0] 38)
  have hR0 := Bx.new (w.alloc (.cells #[.int .i64 k, .slice ta t.length ct, .slice ae e.length ce] 25)) (.slice none 0 0) (.slice none 0 0) (.slice none 0 0) 38
  rw [World.size_alloc] at hR0
  obtain ⟨y0, y1, y2⟩ := cell_two w (.int .i64 k) (.slice ta t.length ct) (.slice ae e.length ce) 25
  replace y0 := alloc_cell y0 (.cells #[.slice none 0 0, .slice none 0 0, .slice none 0 0] 38)
  replace y1 := alloc_cell y1 (.cells #[.slice none 0 0, .slice none 0 0, .slice none 0 0] 38)
  replace y2 := alloc_cell y2 (.cells #[.slice none 0 0, .slice none 0 0, .slice none 0 0] 38)
  have hmay := r14may_any _ s _ (hS.fr hC0)
  have HLA := Lib.hid (show ∀ w', Chg (fun _ => False) w w' → Ara w' (.agg #[.int .i64 k, .slice ta t.length ct, .slice ae e.length ce]) ⟨k, t, e⟩ from fun w' h => hL'.fr h)
  have HT := Lib.hid ht
  have HE := Lib.hid he
  have HS := Lib.hid hS
  clear hL' ht he hS
  cases hsh : shB s with
  | false =>
    rw [hsh] at hmay
    have HR := Lib.hid (rotW_no (L := ⟨k, t, e⟩) (s := s) (n := 110) (by unfold rotE; rw [hsh]; rfl) (by decide))
    clear hsh
    go_enter Try.func21, Try.ntmps21
    go_wp2_with fail
    refine hmay.mono ?_
    clear hmay
    rintro e9 w1 ⟨rfl, hC1⟩
    have HC := Lib.hid (hC0.tr hC1)
    have HRB := Lib.hid (hR0.fr hC1)
    replace y0 := hC1.cell y0 id
    replace y1 := hC1.cell y1 id
    replace y2 := hC1.cell y2 id
    clear hC1 hC0 hR0
    clear y0 y1 y2
    obtain ⟨z0, z1, z2, x0', x1', x2'⟩ := HRB.out
    obtain ⟨⟨g0, g1⟩, g2⟩ := set3_cells (.slice none 0 0) (.slice none 0 0) (.slice none 0 0) z0 z1 z2
    go_wp2
    simp [bodyPost, results, Try.results21, go_sem, g0, g1, g2]
    rw [HR.out]
    exact leaveG0 (Nat.le_succ _) HC.out
  | true =>
    rw [hsh] at hmay
    cases hcb : chkB ⟨k, t, e⟩ with
    | false =>
      have HCE := Lib.hid (show chkE ⟨k, t, e⟩ = 110 by unfold chkE; rw [hcb]; rfl)
      have HR := Lib.hid (rotW_no (L := ⟨k, t, e⟩) (s := s) (n := 110) (by unfold rotE; rw [hsh, hcb]; rfl) (by decide))
      clear hsh hcb
      go_enter Try.func21, Try.ntmps21
      go_wp2_with fail
      refine hmay.mono ?_
      clear hmay
      rintro e9 w1 ⟨rfl, hC1⟩
      have HC := Lib.hid (hC0.tr hC1)
      have HRB := Lib.hid (hR0.fr hC1)
      replace y0 := hC1.cell y0 id
      replace y1 := hC1.cell y1 id
      replace y2 := hC1.cell y2 id
      clear hC1 hC0 hR0
      have hck := r11check_any _ ⟨k, t, e⟩ _ (HLA.out _ HC.out) hle
      rw [HCE.out] at hck
      go_wp2_with fail
      refine hck.mono ?_
      clear hck
      rintro e9 w2 ⟨rfl, hC2⟩
      replace HC := Lib.hid (HC.out.tr hC2)
      replace HRB := Lib.hid (HRB.out.fr hC2)
      replace y0 := hC2.cell y0 id
      replace y1 := hC2.cell y1 id
      replace y2 := hC2.cell y2 id
      clear hC2
      clear y0 y1 y2
      obtain ⟨z0, z1, z2, x0', x1', x2'⟩ := HRB.out
      obtain ⟨⟨g0, g1⟩, g2⟩ := set3_cells (.slice none 0 0) (.slice none 0 0) (.slice none 0 0) z0 z1 z2
      go_wp2
      simp [bodyPost, results, Try.results21, go_sem, g0, g1, g2]
      rw [HR.out]
      exact leaveG0 (Nat.le_succ _) HC.out
    | true =>
      have HCE := Lib.hid (show chkE ⟨k, t, e⟩ = 0 by unfold chkE; rw [hcb]; rfl)
      have hrE := rotE_of hsh hcb
      have hs4 := (shB_iff.1 hsh).1
      have ht4 := (shB_iff.1 (chkB_iff.1 hcb).1).1
      simp only at ht4
      have HSH := Lib.hid hsh
      have HCB := Lib.hid hcb
      have HLG := Lib.hid (show s.length ≤ 4 ∧ t.length ≤ 4 from ⟨hs4, ht4⟩)
      have hsw : IntKind.i64.wrap ((s.length : Int) - 1) = (s.length : Int) - 1 := IntWalk.i64_in _ (by omega)
      obtain ⟨la, hla⟩ : ∃ la, (s.length : Int) - 1 = la := ⟨_, rfl⟩
      rw [hla] at hsw hrE
      have HLAE := Lib.hid hla
      clear hsh hcb
      by_cases h3 : t ≠ [] ∧ (t.length : Int) ≠ la
      · have HR := Lib.hid (rotW_no (L := ⟨k, t, e⟩) (s := s) (n := 3) (by rw [hrE, if_pos h3]) (by decide))
        have d1 : decide (0 < t.length) = true := decide_eq_true (List.length_pos_iff.2 h3.1)
        have d3 : 0 < t.length := List.length_pos_iff.2 h3.1
        have d2 : ((t.length : Int) != la) = true := bne_iff_ne.2 h3.2
        clear hrE h3 hs4 ht4
        go_enter Try.func21, Try.ntmps21
        go_wp2_with fail
        refine hmay.mono ?_
        clear hmay
        rintro e9 w1 ⟨rfl, hC1⟩
        have HC := Lib.hid (hC0.tr hC1)
        have HRB := Lib.hid (hR0.fr hC1)
        replace y0 := hC1.cell y0 id
        replace y1 := hC1.cell y1 id
        replace y2 := hC1.cell y2 id
        clear hC1 hC0 hR0
        have hck := r11check_any _ ⟨k, t, e⟩ _ (HLA.out _ HC.out) hle
        rw [HCE.out] at hck
        go_wp2_with fail
        refine hck.mono ?_
        clear hck
        rintro e9 w2 ⟨rfl, hC2⟩
        replace HC := Lib.hid (HC.out.tr hC2)
        replace HRB := Lib.hid (HRB.out.fr hC2)
        replace y0 := hC2.cell y0 id
        replace y1 := hC2.cell y1 id
        replace y2 := hC2.cell y2 id
        clear hC2
        clear y0 y2
        have hBr := HRB.out
        obtain ⟨z0, z1, z2, x0', x1', x2'⟩ := hBr
        obtain ⟨⟨g0, g1⟩, g2⟩ := set3_cells (.slice none 0 0) (.slice none 0 0) (.slice none 0 0) z0 z1 z2
        go_wp2
        simp [bodyPost, results, Try.results21, go_sem, g0, g1, g2]
        rw [HR.out]
        exact leaveG0 (Nat.le_succ _) HC.out
      · by_cases h4 : t ≠ [] ∧ t ≠ s.take (s.length - 1)
        · have HR := Lib.hid (rotW_no (L := ⟨k, t, e⟩) (s := s) (n := 4) (by rw [hrE, if_neg h3, if_pos h4]) (by decide))
          have h5 : (t.length : Int) = la := by
            by_cases h : (t.length : Int) = la
            · exact h
            · exact absurd ⟨h4.1, h⟩ h3
          have d1 : decide (0 < t.length) = true := decide_eq_true (List.length_pos_iff.2 h4.1)
          have d3 : 0 < t.length := List.length_pos_iff.2 h4.1
          have d2 : ((t.length : Int) != la) = false := bne_eq_false_iff_eq.2 h5
          obtain ⟨jj, hjj⟩ : ∃ jj, s.length - 1 = jj := ⟨_, rfl⟩
          have hjs : la = (jj : Int) := by have := List.length_pos_iff.2 h4.1; have := HLAE.out; omega
          subst hjs
          have hne : decide (t = s.take jj) = false := decide_eq_false (by rw [← hjj]; exact h4.2)
          have HNE := Lib.hid hne
          have hjl : jj ≤ s.length := by omega
          clear hrE h3 h4 h5 hjj hne hs4 ht4
          go_enter Try.func21, Try.ntmps21
          go_wp2_with fail
          refine hmay.mono ?_
          clear hmay
          rintro e9 w1 ⟨rfl, hC1⟩
          have HC := Lib.hid (hC0.tr hC1)
          have HRB := Lib.hid (hR0.fr hC1)
          replace y0 := hC1.cell y0 id
          replace y1 := hC1.cell y1 id
          replace y2 := hC1.cell y2 id
          clear hC1 hC0 hR0
          have hck := r11check_any _ ⟨k, t, e⟩ _ (HLA.out _ HC.out) hle
          rw [HCE.out] at hck
          go_wp2_with fail
          refine hck.mono ?_
          clear hck
          rintro e9 w2 ⟨rfl, hC2⟩
          replace HC := Lib.hid (HC.out.tr hC2)
          replace HRB := Lib.hid (HRB.out.fr hC2)
          replace y0 := hC2.cell y0 id
          replace y1 := hC2.cell y1 id
          replace y2 := hC2.cell y2 id
          clear hC2
          obtain ⟨ax, cx, hxl, hxr⟩ := (HS.out.fr HC.out).slice jj hjl
          have hshp := fun w' (h : Chg (fun _ => False) w2 w') => r11shapes_any _ _ t (s.take jj) w' ((HT.out.fr HC.out).fr h) (hxl.fr h) (by have := HLG.out.2; omega)
          rw [HNE.out] at hshp
          have hsh1 := hshp _ ((Chg.refl _ _).drew)
          have KP := Lib.hid (show ∀ w', Chg (fun _ => False) w2 w' → (Chg (fun _ => False) w2 w' ∧ w'.cell? ⟨w.heap.size, 1, none⟩ = some (.slice ta t.length ct)) from fun w' h => ⟨h, h.cell y1 id⟩)
          clear hshp hxl y0 y2 hjl
          go_wp2_with fail
          go_region_held3 (fun w' => Chg (fun _ => False) w2 w' ∧ w'.cell? ⟨w.heap.size, 1, none⟩ = some (.slice ta t.length ct)) (first | exact KP.out _ ((Chg.refl _ _).drew) | exact KP.out _ (((Chg.refl _ _).drew).tr hC4)) ((go_at_call 43; (with_reducible refine hsh1.mono ?_); rintro e9 w4 ⟨rfl, hC4⟩))
          all_goals
            rename_i hHd
            have hBr := HRB.out.fr hHd.1
            have hCend := HC.out.tr hHd.1
            clear hHd y1
            obtain ⟨z0, z1, z2, x0', x1', x2'⟩ := hBr
            obtain ⟨⟨g0, g1⟩, g2⟩ := set3_cells (.slice none 0 0) (.slice none 0 0) (.slice none 0 0) z0 z1 z2
            go_wp2
            simp [bodyPost, results, Try.results21, go_sem, g0, g1, g2]
            rw [HR.out]
            exact leaveG0 (Nat.le_succ _) hCend
        · have hor : t = [] ∨ (t.length : Int) = la ∧ t = s.take (s.length - 1) := by
            by_cases h0 : t = []
            · exact .inl h0
            · refine .inr ⟨?_, ?_⟩
              · by_cases h : (t.length : Int) = la
                · exact h
                · exact absurd ⟨h0, h⟩ h3
              · by_cases h : t = s.take (s.length - 1)
                · exact h
                · exact absurd ⟨h0, h⟩ h4
          have HOR := Lib.hid hor
          rw [if_neg h3, if_neg h4] at hrE
          have HRE := Lib.hid hrE
          clear hrE h3 h4 hor hs4 ht4
          go_enter Try.func21, Try.ntmps21
          go_wp2_with fail
          refine hmay.mono ?_
          clear hmay
          rintro e9 w1 ⟨rfl, hC1⟩
          have HC := Lib.hid (hC0.tr hC1)
          have HRB := Lib.hid (hR0.fr hC1)
          replace y0 := hC1.cell y0 id
          replace y1 := hC1.cell y1 id
          replace y2 := hC1.cell y2 id
          clear hC1 hC0 hR0
          have hck := r11check_any _ ⟨k, t, e⟩ _ (HLA.out _ HC.out) hle
          rw [HCE.out] at hck
          go_wp2_with fail
          refine hck.mono ?_
          clear hck
          rintro e9 w2 ⟨rfl, hC2⟩
          replace HC := Lib.hid (HC.out.tr hC2)
          replace HRB := Lib.hid (HRB.out.fr hC2)
          replace y0 := hC2.cell y0 id
          replace y1 := hC2.cell y1 id
          replace y2 := hC2.cell y2 id
          clear hC2
          go_upto_region 4 with (fail)
          go_cut [36] (fun s36 wx => s36 = .bool false ∧ wx = w2)
          case first =>
            rcases HOR.out with h0 | ⟨h0, h1⟩
            · have d1 : decide (0 < t.length) = false := decide_eq_false (by rw [h0]; decide)
              have d3 : ¬ 0 < t.length := by rw [h0]; decide
              clear h0 y0 y2
              go_wp2_with fail
              go_meet
              exact ⟨rfl, rfl⟩
            · have d2 : ((t.length : Int) != la) = false := bne_eq_false_iff_eq.2 h0
              by_cases h9 : t = []
              · have d1 : decide (0 < t.length) = false := decide_eq_false (by rw [h9]; decide)
                have d3 : ¬ 0 < t.length := by rw [h9]; decide
                clear h0 h1 h9 y0 y2
                go_wp2_with fail
                go_meet
                exact ⟨rfl, rfl⟩
              · have d1 : decide (0 < t.length) = true := decide_eq_true (List.length_pos_iff.2 h9)
                have d3 : 0 < t.length := List.length_pos_iff.2 h9
                clear h0 h1 h9 y0 y2
                go_wp2_with fail
                go_meet
                exact ⟨rfl, rfl⟩
          case rest =>
            obtain ⟨rfl, rfl⟩ := hcut
            go_upto_region 6 with (fail)
            go_cut [50] (fun s50 wx => s50 = .bool false ∧ Chg (fun _ => False) wc wx)
            case first =>
              by_cases h9 : t = []
              · have d1 : decide (0 < t.length) = false := decide_eq_false (by rw [h9]; decide)
                have d3 : ¬ 0 < t.length := by rw [h9]; decide
                clear h9 y0 y2
                go_wp2_with fail
                go_quiet (fail)
                go_wp2_with fail
                go_meet
                exact ⟨rfl, (Chg.refl _ _).drewN _⟩
              · obtain ⟨h0, h1⟩ := HOR.out.resolve_left h9
                have d1 : decide (0 < t.length) = true := decide_eq_true (List.length_pos_iff.2 h9)
                have d3 : 0 < t.length := List.length_pos_iff.2 h9
                obtain ⟨jj, hjj⟩ : ∃ jj, s.length - 1 = jj := ⟨_, rfl⟩
                have hjs : la = (jj : Int) := by omega
                have hjl : jj ≤ s.length := by omega
                subst hjs
                have hne : decide (t = s.take jj) = true := decide_eq_true (by rw [← hjj]; exact h1)
                have HNE := Lib.hid hne
                obtain ⟨ax, cx, hxl, hxr⟩ := (HS.out.fr HC.out).slice jj hjl
                have hshp := fun w' (h : Chg (fun _ => False) wc w') => r11shapes_any _ _ t (s.take jj) w' ((HT.out.fr HC.out).fr h) (hxl.fr h) (by have := HLG.out.2; omega)
                rw [HNE.out] at hshp
                have hsh1 := hshp _ ((Chg.refl _ _).drew)
                have KP := Lib.hid (show ∀ w', Chg (fun _ => False) wc w' → (Chg (fun _ => False) wc w' ∧ w'.cell? ⟨w.heap.size, 1, none⟩ = some (.slice ta t.length ct)) from fun w' h => ⟨h, h.cell y1 id⟩)
                clear hshp hxl y0 y2 hjl h0 h1 h9 hjj hne
                go_wp2_with fail
                go_region_held3 (fun w' => Chg (fun _ => False) wc w' ∧ w'.cell? ⟨w.heap.size, 1, none⟩ = some (.slice ta t.length ct)) (first | exact KP.out _ ((Chg.refl _ _).drew) | exact KP.out _ (((Chg.refl _ _).drew).tr hC4)) ((go_at_call 43; (with_reducible refine hsh1.mono ?_); rintro e9 w4 ⟨rfl, hC4⟩))
                all_goals
                  rename_i hHd
                  have hCend := hHd.1
                  clear hHd y1
                  go_wp2_with fail
                  go_meet
                  exact ⟨rfl, hCend⟩
            case rest =>
              obtain ⟨rfl, hCc⟩ := hcut
              replace HC := Lib.hid (HC.out.tr hCc)
              replace HRB := Lib.hid (HRB.out.fr hCc)
              replace y0 := hCc.cell y0 id
              replace y1 := hCc.cell y1 id
              replace y2 := hCc.cell y2 id
              clear hCc
              by_cases hk2 : k = 2
              · have HR := Lib.hid (rotW_no (L := ⟨k, t, e⟩) (s := s) (n := 5) (by rw [HRE.out, if_pos hk2]) (by decide))
                subst hk2
                clear y1 y2
                obtain ⟨z0, z1, z2, x0', x1', x2'⟩ := HRB.out
                obtain ⟨⟨g0, g1⟩, g2⟩ := set3_cells (.slice none 0 0) (.slice none 0 0) (.slice none 0 0) z0 z1 z2
                go_wp2
                simp [bodyPost, results, Try.results21, go_sem, g0, g1, g2]
                rw [HR.out]
                exact leaveG0 (Nat.le_succ _) HC.out
              · have b2 : (k == 2) = false := beq_eq_false_iff_ne.2 hk2
                have hE0 : rotE ⟨k, t, e⟩ s = 0 := by rw [HRE.out, if_neg hk2]
                have HR := Lib.hid (show rotW ⟨k, t, e⟩ s = ⟨s, alongG s (rotF ⟨k, t, e⟩ s), 0⟩ from if_pos hE0)
                have HPP := Lib.hid (rotPP_eq (L := ⟨k, t, e⟩) HSH.out)
                have HRW := Lib.hid (rot_has HSH.out HCB.out hE0)
                have hci := cnt_int s
                have hcb := cntN_bd s
                have hcE := cntE_ok HSH.out
                have hcn := cntN_ok HSH.out
                obtain ⟨n, hn⟩ : ∃ n, cnt s = n := ⟨_, rfl⟩
                have HN := Lib.hid hn
                rw [hn] at hci
                have HNB := Lib.hid (show n ≤ 4096 by omega)
                have HCI := Lib.hid (hci.trans hcn)
                clear hk2 hE0 hn
                generalize wc = z1 at *
                have hin := r11ints_any _ s z1 (HS.out.fr HC.out) hsl
                have HLB := Lib.hid (show ∀ w', Chg (fun _ => False) z1 w' → w'.cell? ⟨w.heap.size, 1, none⟩ = some (.slice ta t.length ct) ∧ w'.cell? ⟨w.heap.size, 2, none⟩ = some (.slice ae e.length ce) from fun w' h => ⟨h.cell y1 id, h.cell y2 id⟩)
                go_wp2_with fail
                refine hin.mono ?_
                clear hin y0 y1 y2
                rintro e9 z2 ⟨v2, rfl, ho2, hC2⟩
                obtain ⟨a2, c2, rfl⟩ := own_name ho2
                have hL0 := GatL.start (t := 38) ho2 hC2 (Nat.le_refl _)
                have hCA := (Chg.refl (fun _ => False) z2).alloc (.cells #[.slice a2 s.length c2, .slice none 0 0, .slice none 0 0] 38)
                have hcnt := r11count_any _ s _ (((HS.out.fr HC.out).fr hC2).fr hCA)
                unfold GaveC at hcnt
                rw [← hci, hcE] at hcnt
                obtain ⟨g7, hg7⟩ : ∃ g7, z2.heap.size = g7 := ⟨_, rfl⟩
                rw [hg7] at hL0
                clear ho2 hC2 hCA hci hcb hcE hcn
                go_wp2_with fail
                clear hg7
                refine hcnt.mono ?_
                clear hcnt
                rintro e9 z3 ⟨rfl, hw3⟩
                rw [← hw3] at hL0
                clear hw3
                go_wp2
                go_loopw [10] (fun i wr => ∃ j : Nat, j ≤ n ∧ i = .int .i64 j ∧ GatL z1 wr z1.heap.size g7 (.slice a2 s.length c2) s (tabG j (fun i => (0, plN s (rotPP ⟨k, t, e⟩ s i))))) (fun i _ => n - (intOf i).toNat)
                case atStart => exact ⟨0, Nat.zero_le _, rfl, hL0⟩
                case round =>
                  obtain ⟨j, hj, rfl, hL⟩ := hrel
                  clear hL0
                  have hC : Chg (fun _ => False) z1 wr := by obtain ⟨_, _, _, _, _, _, _, h, _⟩ := hL; exact h
                  by_cases hlt : j < n
                  · have hlt' : (j : Int) < (n : Int) := by omega
                    have hj0 : (0 : Int) ≤ (j : Int) := by omega
                    have hkw : IntKind.i64.wrap ((j : Int) + 1) = (j : Int) + 1 := IntWalk.i64_in _ (by have := HNB.out; omega)
                    have hat := r11at_any _ s j wr (HS.out.fr (HC.out.tr hC)) HSH.out (by omega) (by rw [← HCI.out]; omega)
                    have HTS := Lib.hid (tabG_succ j (fun i => ((0 : Int), plN s (rotPP ⟨k, t, e⟩ s i))))
                    obtain ⟨xs, hxs⟩ : ∃ xs, atL s (j : Int) = xs := ⟨_, rfl⟩
                    have hxl : xs.length = s.length := by rw [← hxs, atL_length]
                    rw [hxs] at hat
                    have HX := Lib.hid hxs
                    have HL := Lib.hid hL
                    have HLT := Lib.hid hlt
                    have HCr := Lib.hid hC
                    clear hL hxs hC hlt hj
                    go_wp2_with fail
                    refine hat.mono ?_
                    clear hat
                    rintro e9 w4 ⟨v4, rfl, ho4, hC4⟩
                    obtain ⟨a4, c4, rfl⟩ := own_name ho4
                    by_cases hs0 : s = []
                    · have hx0 : xs = [] := List.eq_nil_of_length_eq_zero (by rw [hxl, hs0]; rfl)
                      have hrp : rotPP ⟨k, t, e⟩ s j = xs := by unfold rotPP; rw [if_pos hs0, hx0]
                      rw [hrp] at HTS
                      have hneg : la < 0 := by rw [hs0] at hla; simp at hla; omega
                      have hneg' : ¬ (0 : Int) ≤ la := by omega
                      have hCq := hC4
                      have hxq := ho4.ls
                      have hSZ : z1.heap.size ≤ w4.heap.size := Nat.le_trans HCr.out.size hC4.size
                      clear hx0 hrp ho4 hC4 hs0 hxl
                      obtain ⟨vo, vp, hbx, hG, q3, q4, q5, q6, q7, q8⟩ := HL.out.fr hCq
                      obtain ⟨ao1, Lo1, co1, rfl, _⟩ := owns_name hG.oo
                      obtain ⟨ap1, Lp1, cp1, rfl, _⟩ := owns_name hG.op
                      have hput := r14put_any z1.heap.size _ _ _ _ _ s s xs _ _ hG hSZ (HS.out.fr (HC.out.tr q6)) hxq (by rw [tabG_length]; have := HNB.out; omega)
                      obtain ⟨b0, b1, b2', k0, k1, k2⟩ := id hbx
                      have HBX := Lib.hid hbx
                      have HG := Lib.hid hG
                      have Q3 := Lib.hid q3
                      have Q4 := Lib.hid q4
                      have Q5 := Lib.hid q5
                      have Q6 := Lib.hid q6
                      clear hbx hG q3 q4 q5 q6 hCq hxq hSZ
                      go_wp2_with fail
                      refine hput.mono ?_
                      clear hput b0 b1 b2' k0 k1 k2
                      rintro e9 w5 ⟨vo', vp', rfl, hG', hC5, ho', hp'⟩
                      obtain ⟨hbx', hLn⟩ := GatL.next HBX.out Q3.out Q4.out Q5.out HG.out Q6.out q7 q8 hG' hC5 ho' hp'
                      obtain ⟨ao2, Lo2, co2, rfl, _⟩ := owns_name hG'.oo
                      obtain ⟨ap2, Lp2, cp2, rfl, _⟩ := owns_name hG'.op
                      obtain ⟨b0, b1, b2', k0, k1, k2⟩ := hbx'
                      have HLN := Lib.hid hLn
                      clear hLn hG' hC5 ho' hp'
                      go_wp2
                      go_roundw
                      case rel => exact ⟨j + 1, HLT.out, by go_num, by rw [HTS.out]; exact HLN.out⟩
                      case measure => exact fit_meas j n HLT.out
                    · obtain ⟨jj, hjj⟩ : ∃ jj, s.length - 1 = jj := ⟨_, rfl⟩
                      have hpos0 := List.length_pos_iff.2 hs0
                      have hjs : la = (jj : Int) := by omega
                      have hjl : jj < s.length := by omega
                      have hjx : jj < xs.length := by omega
                      subst hjs
                      obtain ⟨q, hq1, hq2⟩ := HRW.out j (by rw [HN.out]; exact HLT.out)
                      have hq1' : (if t = [] then 0 else (j : Int) / rowN s) = (q : Int) := hq1
                      have hq2' : e[q]? = some (rotRow ⟨k, t, e⟩ (rowN s) j) := hq2
                      obtain ⟨b, hbq⟩ : ∃ b, rotRow ⟨k, t, e⟩ (rowN s) j = b := ⟨_, rfl⟩
                      rw [hbq] at hq2'
                      obtain ⟨hql, hqe⟩ := List.getElem?_eq_some_iff.1 hq2'
                      have HQ1 := Lib.hid hq1'
                      have HQE := Lib.hid (show ∃ h : q < e.length, e[q] = b from ⟨hql, hqe⟩)
                      have HBQ := Lib.hid hbq
                      have HJJ := Lib.hid hjj
                      have HS0 := Lib.hid hs0
                      have HC4 := Lib.hid hC4
                      have HO4 := Lib.hid ho4
                      have HXL := Lib.hid hxl
                      obtain ⟨y1, y2⟩ := HLB.out _ (HCr.out.tr hC4)
                      have hjj0 : (0 : Int) ≤ (jj : Int) := by omega
                      have hjx1 : (jj : Int) < (xs.length : Int) := by omega
                      have hjl1 : (jj : Int) < (s.length : Int) := by omega
                      clear hq1 hq2 hq1' hq2' hbq hql hqe hjj hs0 hC4 ho4 hxl hpos0
                      go_upto_if 80 with (fail)
                      go_cut [13] (fun s13 wx => s13 = .int .i64 (q : Int) ∧ Chg (fun _ => False) w4 wx)
                      case first =>
                        by_cases h9 : t = []
                        · have hq := HQ1.out
                          rw [if_pos h9] at hq
                          have HQ := Lib.hid hq
                          have d1 : decide (0 < t.length) = false := decide_eq_false (by rw [h9]; decide)
                          have d3 : ¬ 0 < t.length := by rw [h9]; decide
                          rw [d1]
                          clear h9 hq y2 hjx hjl
                          go_wp2_with fail
                          go_meet
                          exact ⟨by rw [← HQ.out], Chg.refl _ _⟩
                        · have hq := HQ1.out
                          rw [if_neg h9] at hq
                          have h1 := (HOR.out.resolve_left h9).2
                          have d1 : decide (0 < t.length) = true := decide_eq_true (List.length_pos_iff.2 h9)
                          have d3 : 0 < t.length := List.length_pos_iff.2 h9
                          rw [d1]
                          have hpl : plN t (xs.take jj) = (q : Int) := by
                            rw [h1, ← HX.out, ← HJJ.out, place_row HSH.out (by rw [HN.out]; exact HLT.out) HS0.out (h1 ▸ (chkB_iff.1 HCB.out).1)]
                            exact hq
                          obtain ⟨ax, cx, hal, har⟩ := (HO4.out.ls).slice jj (by omega)
                          have hplc := fun w' (h : Chg (fun _ => False) w4 w') => r11place_any _ _ t (xs.take jj) w' ((HT.out.fr ((HC.out.tr HCr.out).tr HC4.out)).fr h) (hal.fr h)
                          unfold GavePl at hplc
                          rw [hpl] at hplc
                          have hplc1 := hplc _ ((Chg.refl _ _).drew)
                          generalize plB t (xs.take jj) = pb at *
                          have KP := Lib.hid (show ∀ w', Chg (fun _ => False) w4 w' → (Chg (fun _ => False) w4 w' ∧ w'.cell? ⟨w.heap.size, 1, none⟩ = some (.slice ta t.length ct)) from fun w' h => ⟨h, h.cell y1 id⟩)
                          clear hplc hpl hal hq h1 h9 y2 d1 hjx hjl
                          go_wp2_with fail
                          go_region_held3 (fun w' => Chg (fun _ => False) w4 w' ∧ w'.cell? ⟨w.heap.size, 1, none⟩ = some (.slice ta t.length ct)) (first | exact KP.out _ ((Chg.refl _ _).drew) | exact KP.out _ (((Chg.refl _ _).drew).tr hC6)) ((go_at_call 63; (with_reducible refine hplc1.mono ?_); rintro e9 w6 ⟨rfl, hC6⟩))
                          all_goals
                            rename_i hHd
                            have hCend := hHd.1
                            clear hHd y1
                            go_wp2_with fail
                            go_meet
                            exact ⟨rfl, hCend⟩
                      case rest =>
                        obtain ⟨rfl, hCc⟩ := hcut
                        have hC4c := HC4.out.tr hCc
                        have ho4 := HO4.out.fr hCc
                        obtain ⟨b4, o4, c4', e1, hc4⟩ := ho4.ls.at hjx
                        obtain ⟨b5, o5, c5', e2, hc5⟩ := (HS.out.fr ((HC.out.tr HCr.out).tr hC4c)).at hjl
                        obtain ⟨b6, o6, c6', x6, e3, hc6, hf4⟩ := (Wrt.of ho4) jj hjx
                        obtain ⟨hql, hqe⟩ := HQE.out
                        obtain ⟨b7, o7, c7', e4, hc7⟩ := (HE.out.fr ((HC.out.tr HCr.out).tr hC4c)).at hql
                        rw [hqe] at hc7
                        injection e1 with e1 e5 e6
                        clear e5 e6
                        injection e2 with e2 e5 e6
                        clear e5 e6
                        injection e4 with e4 e5 e6
                        clear e5 e6
                        subst e1
                        injection e3 with e3 e5 e6
                        clear e5 e6 hc6
                        injection e3 with e3
                        injection e3 with e3 e5 e6
                        clear e6
                        subst e2 e3 e5 e4
                        have hpos := pos_of_prod (s := s) (fun l hl => ((shB_iff.1 HSH.out).2.1 l hl).1) (by have := HCI.out; have := HLT.out; omega)
                        have hm1 : s[jj] = rowN s := by have h := (rowN_last HS0.out).2; simp only [HJJ.out] at h; exact h hjl
                        have hx1 : xs[jj] = (j : Int) % rowN s := by
                          have h := at_lastval HS0.out hpos (j : Int) (by rw [HX.out, HJJ.out]; exact hjx)
                          simp only [HX.out, HJJ.out] at h
                          exact h
                        have hrp : rotPP ⟨k, t, e⟩ s j = xs.set jj (rotK ((j : Int) % rowN s) b (rowN s)) := by
                          unfold rotPP
                          rw [if_neg HS0.out, HX.out, HJJ.out]
                          unfold rotF
                          rw [HBQ.out]
                        obtain ⟨p1, p2, p3⟩ := ediv_lt_cnt HSH.out (i := j) (by rw [HN.out]; exact HLT.out)
                        have r1 := Int.emod_nonneg (j : Int) (show rowN s ≠ 0 by omega)
                        have r2 := Int.emod_lt_of_pos (j : Int) p1
                        have s1 := Int.emod_nonneg b (show rowN s ≠ 0 by omega)
                        have s2 := Int.emod_lt_of_pos b p1
                        have hY : Int.tmod ((j : Int) % rowN s + b % rowN s) (rowN s) = rotK ((j : Int) % rowN s) b (rowN s) := by
                          unfold rotK
                          rw [Int.tmod_eq_emod_of_nonneg (by omega), Int.add_comm, Int.emod_add_emod, Int.add_comm]
                        have hmod := fun w' => modulo_any b (rowN s) w' p1 p2
                        rw [hm1] at hc5
                        rw [hx1] at hc4
                        rw [hrp] at HTS
                        generalize rotK ((j : Int) % rowN s) b (rowN s) = Y at *
                        generalize (j : Int) % rowN s = r at *
                        generalize b % rowN s = bm at *
                        generalize rowN s = m at *
                        have hm0 : ¬ m = 0 := by omega
                        have e10 : IntKind.i64.wrap (r + bm) = r + bm := IntWalk.i64_in _ (by omega)
                        have hb4 : wr.heap.size ≤ b4 := (HO4.out.lt b4 rfl).1
                        have hq0 : (0 : Int) ≤ (q : Int) := by omega
                        have hq1 : (q : Int) < (e.length : Int) := by omega
                        have hb5 : b5 < wc.heap.size := cell_lt hc5
                        have hb7 : b7 < wc.heap.size := cell_lt hc7
                        have y2c := hCc.cell y2 id
                        have HYC := Lib.hid hC4c
                        have HO4c := Lib.hid ho4
                        have HB4 := Lib.hid hb4
                        clear hm1 hx1 hrp ho4 hC4c hpos hCc y1 y2 hql hqe hb4 hjx hjl
                        go_upto_region 20 with (fail)
                        have hmodS : Calls Try.prog 64 #[.int .i64 b, .int .i64 m] wc.drew (fun e w' => e = .returned (.int .i64 bm) ∧ w' = wc.drew) := (hmod wc.drew).mono (fun e w' h => ⟨h.1, h.2.symm⟩)
                        go_still_tail 23, (by kernel_rfl)
                        still_call hmodS
                        repeat still_step
                        refine wpStill_nil ?_
                        clear hmod hmodS
                        have hCq : Chg (fun _ => False) wr (wc.setCell ⟨b4, o4 + jj, none⟩ (.int .i64 Y)).drew := (HYC.out.setCell (p := ⟨b4, o4 + jj, none⟩) (.inr HB4.out) _).drew
                        have hxq : Ls (wc.setCell ⟨b4, o4 + jj, none⟩ (.int .i64 Y)).drew (.slice (some ⟨b4, o4, none⟩) xs.length c4) (xs.set jj Y) := (ls_set HO4c.out.ls jj Y).fr ((Chg.refl _ _).drew)
                        have hSZ : z1.heap.size ≤ (wc.setCell ⟨b4, o4 + jj, none⟩ (.int .i64 Y)).drew.heap.size := Nat.le_trans HCr.out.size hCq.size
                        obtain ⟨vo, vp, hbx, hG, q3, q4, q5, q6, q7, q8⟩ := HL.out.fr hCq
                        obtain ⟨ao1, Lo1, co1, rfl, _⟩ := owns_name hG.oo
                        obtain ⟨ap1, Lp1, cp1, rfl, _⟩ := owns_name hG.op
                        have hput := r14put_any z1.heap.size _ _ _ _ _ s s (xs.set jj Y) _ _ hG hSZ (HS.out.fr (HC.out.tr q6)) hxq (by rw [tabG_length]; have := HNB.out; omega)
                        obtain ⟨b0, b1, b2', k0, k1, k2⟩ := id hbx
                        have HBX := Lib.hid hbx
                        have HG := Lib.hid hG
                        have Q3 := Lib.hid q3
                        have Q4 := Lib.hid q4
                        have Q5 := Lib.hid q5
                        have Q6 := Lib.hid q6
                        clear hbx hG q3 q4 q5 q6 hCq hxq hSZ
                        go_wp2_with fail
                        refine hput.mono ?_
                        clear hput b0 b1 b2' k0 k1 k2
                        rintro e9 w5 ⟨vo', vp', rfl, hG', hC5, ho', hp'⟩
                        obtain ⟨hbx', hLn⟩ := GatL.next HBX.out Q3.out Q4.out Q5.out HG.out Q6.out q7 q8 hG' hC5 ho' hp'
                        obtain ⟨ao2, Lo2, co2, rfl, _⟩ := owns_name hG'.oo
                        obtain ⟨ap2, Lp2, cp2, rfl, _⟩ := owns_name hG'.op
                        obtain ⟨b0, b1, b2', k0, k1, k2⟩ := hbx'
                        have HLN := Lib.hid hLn
                        clear hLn hG' hC5 ho' hp'
                        go_wp2
                        go_roundw
                        case rel => exact ⟨j + 1, HLT.out, by go_num, by rw [HTS.out]; exact HLN.out⟩
                        case measure => exact fit_meas j n HLT.out
                  · obtain rfl : j = n := by omega
                    have HG1 := Lib.hid HPP.out
                    rw [HN.out] at HG1
                    rw [HG1.out] at hL
                    obtain ⟨vo, vp, hbx, hG, q3, q4, q5, q6, q7, q8⟩ := hL
                    obtain ⟨ao1, Lo1, co1, rfl, _⟩ := owns_name hG.oo
                    obtain ⟨ap1, Lp1, cp1, rfl, _⟩ := owns_name hG.op
                    obtain ⟨b0, b1, b2', k0, k1, k2⟩ := hbx
                    obtain ⟨z0, zz1, z2, x0', x1', x2'⟩ := HRB.out.fr hC
                    obtain ⟨⟨g0, g1⟩, g2⟩ := set3_cells (.slice a2 s.length c2) (.slice ao1 Lo1 co1) (.slice ap1 Lp1 cp1) z0 zz1 z2
                    have HG := Lib.hid hG
                    have Q6 := Lib.hid (HC.out.tr q6)
                    have HZ := Lib.hid (show w.heap.size + 1 < z1.heap.size from HRB.out.lt)
                    clear hG q3 q4 q5 q6 hC hlt hj
                    go_wp2
                    simp [bodyPost, results, Try.results21, go_sem, g0, g1, g2]
                    rw [HR.out]
                    exact leaveG HG.out (fun q hq => by have := (HG.out.os.lt q hq).1; have := HZ.out; omega) (fun q hq => by have := (HG.out.oo.lt q hq).1; have := HZ.out; omega) (fun q hq => by have := (HG.out.op.lt q hq).1; have := HZ.out; omega) (Nat.le_succ _) Q6.out
end Go.Proofs.Ytmmbdhfljabefaa
