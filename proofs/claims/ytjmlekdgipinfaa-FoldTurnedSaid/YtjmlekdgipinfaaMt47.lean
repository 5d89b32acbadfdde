/- fold: the inner product's shape. -/
import Derived.Test.YtjmlekdgipinfaaMt46
namespace Go.Proofs.Ytjmlekdgipinfaa
open Go.RowKit Go.Shelf

def badP (A B : Ar) : Prop := A.s ≠ [] ∧ B.s ≠ [] ∧ A.s.getLastD 1 ≠ B.s.headD 1
instance (A B : Ar) : Decidable (badP A B) := by unfold badP; infer_instance
def lngI (A B : Ar) : Int := A.s.getLastD (B.s.headD 1)
def shpI (A B : Ar) : List Int := A.s.dropLast ++ B.s.drop 1
def isE (f g : Int) (A B : Ar) : Int := if ckE [f, g] A B = 0 then (if badP A B then 4 else if knE g A.k B.k = 0 then (if shB (shpI A B) then 0 else 9) else knE g A.k B.k) else ckE [f, g] A B
def GaveIS (w : World) (s : List Int) (L E : Int) (e : Ending) (w' : World) : Prop := ∃ v L', e = .returned (.tuple #[v, .int .i64 L', .int .i64 E]) ∧ Chg (fun _ => False) w w' ∧ (E = 0 → L' = L ∧ Own w' w.heap.size 3 v s) ∧ (E ≠ 0 → L' = 0 ∧ v = .slice none 0 0)
theorem icut_from {w : World} {v : Value} {xs : List Int} (h : Ls w v xs) (h1 : 1 ≤ xs.length) : ∃ ao c, Ls w (.slice ao (xs.length - 1) c) (xs.drop 1) ∧ (∀ W, (Instr.slice 22 v (some (.int .i64 1)) none none).run Try.prog W = .ok (.slice ao (xs.length - 1) c) W) := by
  obtain ⟨ao, c, hS, _, _, h4, _⟩ := Sl.slice (P := Try.prog) 22 3 Try.underlying22 fsizeOf_int h 1 xs.length h1 (by rw [List.length_map]; exact Nat.le_refl _)
  refine ⟨ao, c, ?_, h4 (by rw [List.length_map])⟩
  unfold Ls
  rw [List.take_of_length_le (by rw [List.length_map]; exact Nat.le_refl _)] at hS
  rw [List.map_drop]
  exact hS
theorem last_at {l : List Int} {m : Nat} (d : Int) (h : l.length = m + 1) : l.getLastD d = l[m]'(by omega) := by
  have e : l.length - 1 = m := by omega
  rw [List.getLastD_eq_getLast?, List.getLast?_eq_getElem?, e, List.getElem?_eq_getElem (show m < l.length by omega)]
  rfl
theorem head_at {l : List Int} (d : Int) (h : 0 < l.length) : l.headD d = l[0]'h := by
  cases l with
  | nil => exact absurd h (by simp)
  | cons x r => rfl
set_option maxRecDepth 100000 in
set_option maxHeartbeats 4000000 in
theorem innerS_any (f g : Int) (u v : Value) (A B : Ar) (w : World) (hA : Ara w u A) (hB : Ara w v B) (hl1 : A.e.length ≤ 1000000) (hl2 : B.e.length ≤ 1000000) : Calls Try.prog 35 #[.int .i64 f, .int .i64 g, u, v] w (GaveIS w (shpI A B) (lngI A B) (isE f g A B)) := by
  have hck := fun vl w' (h : Chg (fun _ => False) w w') (hL : Ls w' vl [f, g]) => fchecked_any u v vl A B [f, g] w' (hA.fr h) (hB.fr h) hL hl1 hl2 (by simp)
  obtain ⟨vs, ve, rfl, hs, he⟩ := hA
  obtain ⟨us, ue, rfl, ht, hf⟩ := hB
  obtain ⟨sa, cs, rfl, _⟩ := hs.form
  obtain ⟨ea, ce, rfl, _⟩ := he.form
  obtain ⟨ta, ct, rfl, _⟩ := ht.form
  obtain ⟨fa, cf, rfl, _⟩ := hf.form
  obtain ⟨y0, y1, y2⟩ := cell_two w (.int .i64 A.k) (.slice sa A.s.length cs) (.slice ea A.e.length ce) 25
  obtain ⟨z0, z1, z2⟩ := cell_two (w.alloc (.cells #[.int .i64 A.k, .slice sa A.s.length cs, .slice ea A.e.length ce] 25)) (.int .i64 B.k) (.slice ta B.s.length ct) (.slice fa B.e.length cf) 25
  have hK := (Chg.refl (fun _ => False) (w.alloc (.cells #[.int .i64 A.k, .slice sa A.s.length cs, .slice ea A.e.length ce] 25))).alloc (.cells #[.int .i64 B.k, .slice ta B.s.length ct, .slice fa B.e.length cf] 25)
  replace y0 := hK.cell y0 id
  replace y1 := hK.cell y1 id
  replace y2 := hK.cell y2 id
  rw [World.size_alloc] at z0 z1 z2
  have hC0 := ((Chg.refl (fun _ => False) w).alloc (.cells #[.int .i64 A.k, .slice sa A.s.length cs, .slice ea A.e.length ce] 25)).tr hK
  have hsl := own_lit ((w.alloc (.cells #[.int .i64 A.k, .slice sa A.s.length cs, .slice ea A.e.length ce] 25)).alloc (.cells #[.int .i64 B.k, .slice ta B.s.length ct, .slice fa B.e.length cf] 25)) 3 [f, g] 2 rfl #[.int .i64 f, .int .i64 g] rfl (by simp)
  have hC1 := (Chg.refl (fun _ => False) ((w.alloc (.cells #[.int .i64 A.k, .slice sa A.s.length cs, .slice ea A.e.length ce] 25)).alloc (.cells #[.int .i64 B.k, .slice ta B.s.length ct, .slice fa B.e.length cf] 25))).alloc (.cells #[.int .i64 f, .int .i64 g] 3)
  have h1 := hck _ _ (hC0.tr hC1) hsl.ls
  rw [World.size_alloc, World.size_alloc] at h1
  have HC := Lib.hid hC0
  have hk := kinds_any g A.k B.k
  unfold SaidI at hk
  have HX0 := Lib.hid (show ckE [f, g] A B = 0 → A.s.length ≤ 1000000 ∧ B.s.length ≤ 1000000 ∧ A.s.dropLast.length + (B.s.drop 1).length ≤ 1000000 from fun h => by
    have h2 := ck_zero h
    have q1 := (shB_iff.1 (chkB_iff.1 h2.1).1).1
    have q2 := (shB_iff.1 (chkB_iff.1 h2.2).1).1
    rw [List.length_dropLast, List.length_drop]
    omega)
  have HLA := Lib.hid hs
  have HLB := Lib.hid ht
  clear hs he ht hf hK hC0 hck hl1 hl2 hsl
  unfold GaveI at h1
  obtain ⟨ck, hck⟩ : ∃ c, ckE [f, g] A B = c := ⟨_, rfl⟩
  obtain ⟨kn, hkn⟩ : ∃ kn, knE g A.k B.k = kn := ⟨_, rfl⟩
  obtain ⟨E, hE⟩ : ∃ E, isE f g A B = E := ⟨_, rfl⟩
  have HE := Lib.hid (show (ck ≠ 0 → E = ck) ∧ (ck = 0 → (badP A B → E = 4) ∧ (¬ badP A B → kn ≠ 0 → E = kn) ∧ (¬ badP A B → kn = 0 → shB (shpI A B) = true → E = 0) ∧ (¬ badP A B → kn = 0 → shB (shpI A B) = false → E = 9)) from by
    rw [← hE]
    unfold isE
    rw [hck, hkn]
    exact ⟨fun h => if_neg h, fun h => ⟨fun h2 => by rw [if_pos h, if_pos h2], fun h2 h3 => by rw [if_pos h, if_neg h2, if_neg h3], fun h2 h3 h4 => by rw [if_pos h, if_neg h2, if_pos h3, h4]; rfl, fun h2 h3 h4 => by rw [if_pos h, if_neg h2, if_pos h3, h4]; rfl⟩⟩)
  rw [hck] at h1 HX0
  simp only [hkn] at hk
  rw [hE]
  obtain ⟨L, hL⟩ : ∃ L, lngI A B = L := ⟨_, rfl⟩
  have HL := Lib.hid hL
  rw [hL]
  obtain ⟨nA, hnA⟩ : ∃ n, A.s.length = n := ⟨_, rfl⟩
  obtain ⟨nB, hnB⟩ : ∃ n, B.s.length = n := ⟨_, rfl⟩
  rw [hnA, hnB] at h1
  rw [hnA, hnB] at hC1 y0 y1 y2 z0 z1 z2 HC
  rw [hnA] at HLA
  rw [hnB] at HLB
  rw [hnA, hnB]
  have HN := Lib.hid (And.intro hnA hnB)
  clear hkn hck hE hL hnA hnB
  go_enter Try.func35, Try.ntmps35
  go_wp2_with fail
  refine h1.mono ?_
  clear h1
  rintro e9 w1 ⟨rfl, hC2⟩
  replace HC := Lib.hid (HC.out.tr (hC1.tr hC2))
  replace y0 := (hC1.tr hC2).cell y0 id
  replace y1 := (hC1.tr hC2).cell y1 id
  replace y2 := (hC1.tr hC2).cell y2 id
  replace z0 := (hC1.tr hC2).cell z0 id
  replace z1 := (hC1.tr hC2).cell z1 id
  replace z2 := (hC1.tr hC2).cell z2 id
  clear hC1 hC2
  by_cases h0 : ck = 0
  · subst h0
    have HE2 := Lib.hid (HE.out.2 (by first | rfl | trivial))
    have HX := Lib.hid (HX0.out (by first | rfl | trivial)).2.2
    clear HE
    go_wp2_with fail
    have HNA := Lib.hid (show nA ≤ 1000000 by have h9 := (HX0.out (by first | rfl | trivial)).1; rw [HN.out.1] at h9; exact h9)
    rcases Nat.eq_zero_or_pos nB with hb | hb
    · subst hb
      have HB0 := Lib.hid (show B.s = [] from List.eq_nil_of_length_eq_zero HN.out.2)
      have HRL := Lib.hid (show Ls w (.slice ta 0 ct) (B.s.drop 1) by have h9 := HLB.out; rw [HB0.out] at h9 ⊢; exact h9)
      rcases Nat.eq_zero_or_pos nA with ha | ha
      · subst ha
        have HA0 := Lib.hid (show A.s = [] from List.eq_nil_of_length_eq_zero HN.out.1)
        have HFL := Lib.hid (show Ls w (.slice sa 0 cs) A.s.dropLast by have h9 := HLA.out; rw [HA0.out] at h9 ⊢; exact h9)
        have HNB := Lib.hid (show ¬ badP A B from fun h => h.1 HA0.out)
        have HLN := Lib.hid (show L = 1 from by rw [← HL.out]; unfold lngI; rw [HA0.out, HB0.out]; rfl)
        go_quiet (fail)
        have HLM := Lib.hid (show ∀ w', Chg (fun _ => False) w w' → Calls Try.prog 49 #[.slice sa 0 cs, .slice ta 0 ct] w' (GaveLm w' (shpI A B)) from fun w' h => limited_any _ _ _ _ w' (HFL.out.fr h) (HRL.out.fr h) HX.out)
        go_wp2_with fail
        refine (hk _).mono ?_
        clear hk
        rintro e9 w2 ⟨rfl, rfl⟩
        by_cases h2 : kn = 0
        · subst h2
          have HE3 := Lib.hid (show (shB (shpI A B) = true → E = 0) ∧ (shB (shpI A B) = false → E = 9) from ⟨HE2.out.2.2.1 HNB.out (by first | rfl | trivial), HE2.out.2.2.2 HNB.out (by first | rfl | trivial)⟩)
          clear HE2
          go_wp2_with fail
          refine (HLM.out _ ?_).mono ?_
          · repeat (first | (with_reducible exact HC.out) | (with_reducible refine chg_drew' ?_) | (with_reducible refine chg_drewN' ?_))
          rintro e9 w3 ⟨hC3, x, n, rfl, hv⟩
          have HC3 := Lib.hid hC3
          rcases hv with ⟨hs, rfl, ho⟩ | ⟨hs, rfl, rfl⟩
          · obtain rfl := HE3.out.1 hs
            obtain ⟨ax, cx, rfl⟩ := own_name ho
            have HO := Lib.hid (ho.mono (HC.out.size))
            clear hs ho hC3
            go_wp2
            simp [bodyPost, results, Try.results35, go_sem]
            exact ⟨_, _, rfl, (HC.out.drewN _).tr HC3.out, fun _ => ⟨HLN.out.symm, HO.out⟩, fun h => absurd rfl h⟩
          · obtain rfl := HE3.out.2 hs
            clear hs hC3
            go_wp2
            simp [bodyPost, results, Try.results35, go_sem]
            exact ⟨_, _, rfl, (HC.out.drewN _).tr HC3.out, fun h => absurd h (by decide), fun _ => ⟨rfl, rfl⟩⟩
        · obtain rfl := HE2.out.2.1 HNB.out h2
          have e2 : (E != 0) = true := bne_iff_ne.2 h2
          have H2 := Lib.hid h2
          clear h2 HE2
          go_wp2
          simp [bodyPost, results, Try.results35, go_sem]
          exact ⟨_, _, rfl, by repeat (first | (with_reducible exact HC.out) | (with_reducible refine chg_drew' ?_) | (with_reducible refine chg_drewN' ?_)), fun h => absurd h H2.out, fun _ => ⟨rfl, rfl⟩⟩
      · have _u := True.intro
        clear _u
        obtain ⟨m, hm⟩ : ∃ m, nA = m + 1 := ⟨nA - 1, by omega⟩
        have hmA : m < A.s.length := by rw [HN.out.1]; omega
        obtain ⟨xa, oa, ca', e1, hxa⟩ := (HLA.out.fr HC.out).at hmA
        injection e1 with e1 e2 e3
        subst e1
        clear e2 e3
        have HLAST := Lib.hid (fun d => last_at (l := A.s) (m := m) d (by rw [HN.out.1]; exact hm))
        obtain ⟨LA, hLA⟩ : ∃ x, A.s[m] = x := ⟨_, rfl⟩
        rw [hLA] at hxa
        replace HLAST := Lib.hid (show ∀ d, A.s.getLastD d = LA from fun d => (HLAST.out d).trans hLA)
        obtain ⟨ak, ck', hkl, hkrun⟩ := icut_upto HLA.out m (by omega)
        rw [show A.s.take m = A.s.dropLast by rw [List.dropLast_eq_take, HN.out.1, hm]; rfl] at hkl
        have hwm : IntKind.i64.wrap ((nA : Int) - 1) = (m : Int) := by have := HNA.out; rw [IntWalk.i64_in _ (by omega)]; omega
        have m0 : (0 : Int) ≤ (m : Int) := by omega
        have m1 : (m : Int) < (nA : Int) := by omega
        have hdA : decide (0 < nA) = true := decide_eq_true ha
        have HKL := Lib.hid hkl
        have HAN := Lib.hid (show A.s ≠ [] from fun e => by have := HN.out.1; rw [e] at this; simp at this; omega)
        clear hm hmA hLA hkl ha
        have HNB := Lib.hid (show ¬ badP A B from fun h => h.2.1 HB0.out)
        have HLN := Lib.hid (show L = LA from by rw [← HL.out]; exact HLAST.out _)
        go_quiet (fail)
        go_wp2
        go_quiet (fail)
        have HLM := Lib.hid (show ∀ w', Chg (fun _ => False) w w' → Calls Try.prog 49 #[.slice ak m ck', .slice ta 0 ct] w' (GaveLm w' (shpI A B)) from fun w' h => limited_any _ _ _ _ w' (HKL.out.fr h) (HRL.out.fr h) HX.out)
        go_wp2_with fail
        refine (hk _).mono ?_
        clear hk
        rintro e9 w2 ⟨rfl, rfl⟩
        by_cases h2 : kn = 0
        · subst h2
          have HE3 := Lib.hid (show (shB (shpI A B) = true → E = 0) ∧ (shB (shpI A B) = false → E = 9) from ⟨HE2.out.2.2.1 HNB.out (by first | rfl | trivial), HE2.out.2.2.2 HNB.out (by first | rfl | trivial)⟩)
          clear HE2
          go_wp2_with fail
          refine (HLM.out _ ?_).mono ?_
          · repeat (first | (with_reducible exact HC.out) | (with_reducible refine chg_drew' ?_) | (with_reducible refine chg_drewN' ?_))
          rintro e9 w3 ⟨hC3, x, n, rfl, hv⟩
          have HC3 := Lib.hid hC3
          rcases hv with ⟨hs, rfl, ho⟩ | ⟨hs, rfl, rfl⟩
          · obtain rfl := HE3.out.1 hs
            obtain ⟨ax, cx, rfl⟩ := own_name ho
            have HO := Lib.hid (ho.mono (HC.out.size))
            clear hs ho hC3
            go_wp2
            simp [bodyPost, results, Try.results35, go_sem]
            exact ⟨_, _, rfl, (HC.out.drewN _).tr HC3.out, fun _ => ⟨HLN.out.symm, HO.out⟩, fun h => absurd rfl h⟩
          · obtain rfl := HE3.out.2 hs
            clear hs hC3
            go_wp2
            simp [bodyPost, results, Try.results35, go_sem]
            exact ⟨_, _, rfl, (HC.out.drewN _).tr HC3.out, fun h => absurd h (by decide), fun _ => ⟨rfl, rfl⟩⟩
        · obtain rfl := HE2.out.2.1 HNB.out h2
          have e2 : (E != 0) = true := bne_iff_ne.2 h2
          have H2 := Lib.hid h2
          clear h2 HE2
          go_wp2
          simp [bodyPost, results, Try.results35, go_sem]
          exact ⟨_, _, rfl, by repeat (first | (with_reducible exact HC.out) | (with_reducible refine chg_drew' ?_) | (with_reducible refine chg_drewN' ?_)), fun h => absurd h H2.out, fun _ => ⟨rfl, rfl⟩⟩
    · have _u := True.intro
      clear _u
      have hbB : 0 < B.s.length := by rw [HN.out.2]; exact hb
      obtain ⟨xb, ob, cb', e1, hxb⟩ := (HLB.out.fr HC.out).at (j := 0) hbB
      injection e1 with e1 e2 e3
      subst e1
      clear e2 e3
      rw [Nat.add_zero] at hxb
      have HHEAD := Lib.hid (fun d => head_at (l := B.s) d hbB)
      obtain ⟨LB, hLB⟩ : ∃ x, B.s[0] = x := ⟨_, rfl⟩
      rw [hLB] at hxb
      replace HHEAD := Lib.hid (show ∀ d, B.s.headD d = LB from fun d => (HHEAD.out d).trans hLB)
      obtain ⟨bk, bc, hbl, hbrun⟩ := icut_from HLB.out hbB
      obtain ⟨n1, hn1⟩ : ∃ n1, B.s.length - 1 = n1 := ⟨_, rfl⟩
      rw [hn1] at hbl hbrun
      have hdB : decide (0 < nB) = true := decide_eq_true hb
      have HBL := Lib.hid hbl
      have HBN := Lib.hid (show B.s ≠ [] from fun e => by rw [e] at hbB; simp at hbB)
      clear hbB hLB hn1 hbl
      rcases Nat.eq_zero_or_pos nA with ha | ha
      · subst ha
        have HA0 := Lib.hid (show A.s = [] from List.eq_nil_of_length_eq_zero HN.out.1)
        have HFL := Lib.hid (show Ls w (.slice sa 0 cs) A.s.dropLast by have h9 := HLA.out; rw [HA0.out] at h9 ⊢; exact h9)
        have HNB := Lib.hid (show ¬ badP A B from fun h => h.1 HA0.out)
        have HLN := Lib.hid (show L = LB from by rw [← HL.out]; unfold lngI; rw [HA0.out]; exact HHEAD.out _)
        go_quiet (fail)
        go_wp2
        go_quiet (fail)
        have HLM := Lib.hid (show ∀ w', Chg (fun _ => False) w w' → Calls Try.prog 49 #[.slice sa 0 cs, .slice bk n1 bc] w' (GaveLm w' (shpI A B)) from fun w' h => limited_any _ _ _ _ w' (HFL.out.fr h) (HBL.out.fr h) HX.out)
        go_wp2_with fail
        refine (hk _).mono ?_
        clear hk
        rintro e9 w2 ⟨rfl, rfl⟩
        by_cases h2 : kn = 0
        · subst h2
          have HE3 := Lib.hid (show (shB (shpI A B) = true → E = 0) ∧ (shB (shpI A B) = false → E = 9) from ⟨HE2.out.2.2.1 HNB.out (by first | rfl | trivial), HE2.out.2.2.2 HNB.out (by first | rfl | trivial)⟩)
          clear HE2
          go_wp2_with fail
          refine (HLM.out _ ?_).mono ?_
          · repeat (first | (with_reducible exact HC.out) | (with_reducible refine chg_drew' ?_) | (with_reducible refine chg_drewN' ?_))
          rintro e9 w3 ⟨hC3, x, n, rfl, hv⟩
          have HC3 := Lib.hid hC3
          rcases hv with ⟨hs, rfl, ho⟩ | ⟨hs, rfl, rfl⟩
          · obtain rfl := HE3.out.1 hs
            obtain ⟨ax, cx, rfl⟩ := own_name ho
            have HO := Lib.hid (ho.mono (HC.out.size))
            clear hs ho hC3
            go_wp2
            simp [bodyPost, results, Try.results35, go_sem]
            exact ⟨_, _, rfl, (HC.out.drewN _).tr HC3.out, fun _ => ⟨HLN.out.symm, HO.out⟩, fun h => absurd rfl h⟩
          · obtain rfl := HE3.out.2 hs
            clear hs hC3
            go_wp2
            simp [bodyPost, results, Try.results35, go_sem]
            exact ⟨_, _, rfl, (HC.out.drewN _).tr HC3.out, fun h => absurd h (by decide), fun _ => ⟨rfl, rfl⟩⟩
        · obtain rfl := HE2.out.2.1 HNB.out h2
          have e2 : (E != 0) = true := bne_iff_ne.2 h2
          have H2 := Lib.hid h2
          clear h2 HE2
          go_wp2
          simp [bodyPost, results, Try.results35, go_sem]
          exact ⟨_, _, rfl, by repeat (first | (with_reducible exact HC.out) | (with_reducible refine chg_drew' ?_) | (with_reducible refine chg_drewN' ?_)), fun h => absurd h H2.out, fun _ => ⟨rfl, rfl⟩⟩
      · have _u := True.intro
        clear _u
        obtain ⟨m, hm⟩ : ∃ m, nA = m + 1 := ⟨nA - 1, by omega⟩
        have hmA : m < A.s.length := by rw [HN.out.1]; omega
        obtain ⟨xa, oa, ca', e1, hxa⟩ := (HLA.out.fr HC.out).at hmA
        injection e1 with e1 e2 e3
        subst e1
        clear e2 e3
        have HLAST := Lib.hid (fun d => last_at (l := A.s) (m := m) d (by rw [HN.out.1]; exact hm))
        obtain ⟨LA, hLA⟩ : ∃ x, A.s[m] = x := ⟨_, rfl⟩
        rw [hLA] at hxa
        replace HLAST := Lib.hid (show ∀ d, A.s.getLastD d = LA from fun d => (HLAST.out d).trans hLA)
        obtain ⟨ak, ck', hkl, hkrun⟩ := icut_upto HLA.out m (by omega)
        rw [show A.s.take m = A.s.dropLast by rw [List.dropLast_eq_take, HN.out.1, hm]; rfl] at hkl
        have hwm : IntKind.i64.wrap ((nA : Int) - 1) = (m : Int) := by have := HNA.out; rw [IntWalk.i64_in _ (by omega)]; omega
        have m0 : (0 : Int) ≤ (m : Int) := by omega
        have m1 : (m : Int) < (nA : Int) := by omega
        have hdA : decide (0 < nA) = true := decide_eq_true ha
        have HKL := Lib.hid hkl
        have HAN := Lib.hid (show A.s ≠ [] from fun e => by have := HN.out.1; rw [e] at this; simp at this; omega)
        clear hm hmA hLA hkl ha
        by_cases hlb : LA = LB
        · have HNB := Lib.hid (show ¬ badP A B from fun h => h.2.2 (by rw [HLAST.out, HHEAD.out]; exact hlb))
          have HLN := Lib.hid (show L = LA from by rw [← HL.out]; exact HLAST.out _)
          have eL : (LA != LB) = false := by rw [hlb]; simp
          clear hlb
          go_quiet (fail)
          go_wp2
          go_quiet (fail)
          go_wp2
          go_quiet (fail)
          have HLM := Lib.hid (show ∀ w', Chg (fun _ => False) w w' → Calls Try.prog 49 #[.slice ak m ck', .slice bk n1 bc] w' (GaveLm w' (shpI A B)) from fun w' h => limited_any _ _ _ _ w' (HKL.out.fr h) (HBL.out.fr h) HX.out)
          go_wp2_with fail
          refine (hk _).mono ?_
          clear hk
          rintro e9 w2 ⟨rfl, rfl⟩
          by_cases h2 : kn = 0
          · subst h2
            have HE3 := Lib.hid (show (shB (shpI A B) = true → E = 0) ∧ (shB (shpI A B) = false → E = 9) from ⟨HE2.out.2.2.1 HNB.out (by first | rfl | trivial), HE2.out.2.2.2 HNB.out (by first | rfl | trivial)⟩)
            clear HE2
            go_wp2_with fail
            refine (HLM.out _ ?_).mono ?_
            · repeat (first | (with_reducible exact HC.out) | (with_reducible refine chg_drew' ?_) | (with_reducible refine chg_drewN' ?_))
            rintro e9 w3 ⟨hC3, x, n, rfl, hv⟩
            have HC3 := Lib.hid hC3
            rcases hv with ⟨hs, rfl, ho⟩ | ⟨hs, rfl, rfl⟩
            · obtain rfl := HE3.out.1 hs
              obtain ⟨ax, cx, rfl⟩ := own_name ho
              have HO := Lib.hid (ho.mono (HC.out.size))
              clear hs ho hC3
              go_wp2
              simp [bodyPost, results, Try.results35, go_sem]
              exact ⟨_, _, rfl, (HC.out.drewN _).tr HC3.out, fun _ => ⟨HLN.out.symm, HO.out⟩, fun h => absurd rfl h⟩
            · obtain rfl := HE3.out.2 hs
              clear hs hC3
              go_wp2
              simp [bodyPost, results, Try.results35, go_sem]
              exact ⟨_, _, rfl, (HC.out.drewN _).tr HC3.out, fun h => absurd h (by decide), fun _ => ⟨rfl, rfl⟩⟩
          · obtain rfl := HE2.out.2.1 HNB.out h2
            have e2 : (E != 0) = true := bne_iff_ne.2 h2
            have H2 := Lib.hid h2
            clear h2 HE2
            go_wp2
            simp [bodyPost, results, Try.results35, go_sem]
            exact ⟨_, _, rfl, by repeat (first | (with_reducible exact HC.out) | (with_reducible refine chg_drew' ?_) | (with_reducible refine chg_drewN' ?_)), fun h => absurd h H2.out, fun _ => ⟨rfl, rfl⟩⟩
        · obtain rfl := HE2.out.1 ⟨HAN.out, HBN.out, by rw [HLAST.out, HHEAD.out]; exact hlb⟩
          have eL : (LA != LB) = true := bne_iff_ne.2 hlb
          clear hlb HE2
          go_quiet (fail)
          go_wp2
          go_quiet (fail)
          go_wp2
          simp [bodyPost, results, Try.results35, go_sem]
          exact ⟨_, _, rfl, by repeat (first | (with_reducible exact HC.out) | (with_reducible refine chg_drew' ?_) | (with_reducible refine chg_drewN' ?_)), fun h => absurd h (by decide), fun _ => ⟨rfl, rfl⟩⟩
  · have e2 : (ck != 0) = true := bne_iff_ne.2 h0
    have H2 := Lib.hid h0
    obtain rfl := HE.out.1 h0
    clear h0
    go_wp2
    simp [bodyPost, results, Try.results35, go_sem]
    exact ⟨_, _, rfl, HC.out, fun h => absurd h H2.out, fun _ => ⟨rfl, rfl⟩⟩
end Go.Proofs.Ytjmlekdgipinfaa
