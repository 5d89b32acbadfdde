/- NoteLast's walk. -/
import Derived.Test.YtpiboaoifcajdaaNtI
import Derived.Test.YtpiboaoifcajdaaNtO
namespace Go.Proofs.Ytpiboaoifcajdaa
open Go.RowKit Go.Shelf

theorem encE_or (k a b n : Int) : ((Nt.mk k a b n).may = true ∧ encE k a b n = 0) ∨ ((Nt.mk k a b n).may = false ∧ encE k a b n = 90) := by
  by_cases h : (Nt.mk k a b n).may = true
  · exact .inl ⟨h, (enc_parts.2 h).2⟩
  · have h' : (Nt.mk k a b n).may = false := by simpa using h
    exact .inr ⟨h', (enc_parts.1 h').2⟩
theorem three_two (a b n : Int) : (Nt.mk 3 a b n).k ≠ 2 := by show (3 : Int) ≠ 2; decide
theorem newAny (s : Int) (v : Value) (ps : List (List UInt8)) (w : World) (hP : Pay w v ps) (hlen : ps.length ≤ 1000000) (hsm : ∀ xs ∈ ps, xs.length ≤ 140737488355328) : Calls Try.prog 15 #[.int .i64 s, v] w (GaveG w (begN s ps) (noteN s ps) ((fil (noteN s ps)).reverse)) :=
  newP_any s ps v w hP hlen hsm _ _ _ rfl rfl rfl
theorem great_lens {ps : List (List UInt8)} (h : greatB ps = false) : ps.length ≤ 150 ∧ ∀ xs ∈ ps, xs.length ≤ 140737488355328 := by
  unfold greatB at h
  rw [Bool.or_eq_false_iff] at h
  refine ⟨Nat.not_lt.1 (of_decide_eq_false h.1), fun xs hx => ?_⟩
  have := of_decide_eq_false (List.any_eq_false.1 h.2 xs hx |> Bool.eq_false_iff.2)
  omega
def BoxAt (W : World) (b : Nat) (k a bb n : Int) : Prop := W.cell? ⟨b, 0, none⟩ = some (.int .i64 k) ∧ W.cell? ⟨b, 1, none⟩ = some (.int .i64 a) ∧ W.cell? ⟨b, 2, none⟩ = some (.int .i64 bb) ∧ W.cell? ⟨b, 3, none⟩ = some (.int .i64 n)
theorem BoxAt.fr {W W' : World} {b : Nat} {k a bb n : Int} (h : BoxAt W b k a bb n) (hC : Chg (fun _ => False) W W') : BoxAt W' b k a bb n := ⟨hC.cell h.1 id, hC.cell h.2.1 id, hC.cell h.2.2.1 id, hC.cell h.2.2.2 id⟩
theorem BoxAt.new (W : World) (k a b n : Int) (t : TypeId) : BoxAt (W.alloc (.cells #[.int .i64 k, .int .i64 a, .int .i64 b, .int .i64 n] t)) W.heap.size k a b n :=
  ⟨new_cell W _ _ rfl, new_cell W _ _ rfl, new_cell W _ _ rfl, new_cell W _ _ rfl⟩
theorem pay_cat {w2 : World} {base n : Nat} {v2 : Value} {vs1 vs2 : List Value} {ps1 ps2 : List (List UInt8)} (hown : w2.ownsRow base 24 1 v2 n (vs1 ++ vs2)) (h1 : vs1.length = ps1.length) (h2 : vs2.length = ps2.length)
    (k1 : ∀ (j : Nat) (u : Value) (xs : List UInt8), vs1[j]? = some u → ps1[j]? = some xs → Sl w2 u (xs.map B)) (k2 : ∀ (j : Nat) (u : Value) (xs : List UInt8), vs2[j]? = some u → ps2[j]? = some xs → Sl w2 u (xs.map B)) : Pay w2 v2 (ps1 ++ ps2) := by
  refine ⟨_, Sl.of_owns hown, by rw [List.length_append, List.length_append, h1, h2], fun j u xs hu hx => ?_⟩
  by_cases hj : j < vs1.length
  · rw [List.getElem?_append_left hj] at hu
    rw [List.getElem?_append_left (by omega)] at hx
    exact k1 j u xs hu hx
  · rw [List.getElem?_append_right (by omega)] at hu hx
    rw [← h1] at hx
    exact k2 _ u xs hu hx
/-- What an append of payloads is asked. -/
theorem pay_parts {W : World} {ao : Option Addr} {n c : Nat} {ps : List (List UInt8)} (h : Pay W (.slice ao n c) ps) : ∃ vs : List Value, vs.length = n * 1 ∧ (∀ w', Chg (fun _ => False) W w' → ∀ j u, vs[j]? = some u → ∃ ad, ao = some ad ∧ w'.cell? (ad.add j) = some u) ∧ (∀ u ∈ vs, u.oneCell' = true) ∧
    (vs.length = ps.length ∧ ∀ w', Chg (fun _ => False) W w' → ∀ (j : Nat) (u : Value) (xs : List UInt8), vs[j]? = some u → ps[j]? = some xs → Sl w' u (xs.map B)) := by
  obtain ⟨vs, h1, h2, h3⟩ := h
  have hn : vs.length = n := by obtain ⟨_, _, e, _⟩ := h1.form; injection e with _ e _; exact e.symm
  subst hn
  refine ⟨vs, by simp, fun w' hC => (h1.fr hC).src, fun u hu => ?_, h2, fun w' hC j u xs hu hx => (h3 j u xs hu hx).fr hC⟩
  obtain ⟨j, hj, rfl⟩ := List.getElem_of_mem hu
  obtain ⟨_, _, e, _⟩ := (h3 j _ _ (List.getElem?_eq_getElem hj) (List.getElem?_eq_getElem (by omega))).form
  rw [e]
  rfl
theorem rowp_parts {W : World} {base n c : Nat} {ao : Option Addr} {ps : List (List UInt8)} {vs : List Value} (h1 : W.ownsRow base 24 1 (.slice ao n c) ps.length vs)
    (h2 : ∀ (j : Nat) (u : Value) (xs : List UInt8), vs[j]? = some u → ps[j]? = some xs → W.ownsRow base 5 1 u xs.length (xs.map B) ∧ ∀ g, u.ownBlock = some g → ¬ (Value.slice ao n c).ownBlock = some g) :
    ∃ vs : List Value, vs.length = n * 1 ∧ (∀ w', Chg (fun _ => False) W w' → ∀ j u, vs[j]? = some u → ∃ ad, ao = some ad ∧ w'.cell? (ad.add j) = some u) ∧ (∀ u ∈ vs, u.oneCell' = true) ∧
    (vs.length = ps.length ∧ ∀ w', Chg (fun _ => False) W w' → ∀ (j : Nat) (u : Value) (xs : List UInt8), vs[j]? = some u → ps[j]? = some xs → Sl w' u (xs.map B)) := pay_parts (RowP.pay ⟨vs, h1, h2⟩)
theorem last_plain {s : Int} {ps : List (List UInt8)} {N : List Nt} {x y : Nt} (hb : begN s ps = true) (hn : noteN s ps = N) (hlen : N.length + 1 = ps.length) (hend : ∀ y, N.getLast? = some y → y.k ≤ 3) (hx : x.may = true ∧ x.ok) (hy : y.may = true ∧ y.ok) (kx : x.k = 3) (ky : y.k = 3) :
    begN s (ps ++ [encN x, encN y]) = true ∧ noteN s (ps ++ [encN x, encN y]) = N ++ [x, y] ∧ (fil (N ++ [x, y])).reverse = y :: x :: (fil N).reverse := by
  obtain ⟨g1, g2⟩ := log_more s ps [encN x, encN y] hb (by rw [hn]; exact hlen) (by rw [hn]; exact hend)
  refine ⟨g1, ?_, ?_⟩
  · rw [g2, hn]
    have := takeN_enc [x, y] (fun z hz => by rcases List.mem_cons.1 hz with rfl | hz; exact hx; rw [List.mem_singleton.1 hz]; exact hy)
    rw [List.map_cons, List.map_cons, List.map_nil] at this
    rw [this]
    simp [takeM, kx, ky]
  · rw [fil_append]
    have : fil [x, y] = [x, y] := by simp [fil, kx, ky]
    rw [this]
    simp
set_option maxRecDepth 100000 in
set_option maxHeartbeats 20000000 in
theorem last_main (s : Int) (v : Value) (ps : List (List UInt8)) (xk xa xb xn yk ya yb yn : Int) (hx : (Nt.mk xk xa xb xn).ok) (hy : (Nt.mk yk ya yb yn).ok) (W : World) (hP : Pay W v ps) (hg : greatB ps = false) (h100 : ps.length ≤ 100) : Calls Try.prog 5 #[.int .i64 s, v, .agg #[.int .i64 xk, .int .i64 xa, .int .i64 xb, .int .i64 xn], .agg #[.int .i64 yk, .int .i64 ya, .int .i64 yb, .int .i64 yn]] W (True_ W) := by
  obtain ⟨vs, hv1, hv2, hv3⟩ := id hP
  obtain ⟨ao, c, rfl, _⟩ := hv1.form
  rw [hv2] at hP ⊢
  have hlens := great_lens hg
  have HP := Lib.hid hP
  have hCx := (Chg.refl (fun _ => False) W).alloc (.cells #[.int .i64 xk, .int .i64 xa, .int .i64 xb, .int .i64 xn] 23)
  have hCy := hCx.alloc (.cells #[.int .i64 yk, .int .i64 ya, .int .i64 yb, .int .i64 yn] 23)
  have hbx := (BoxAt.new W xk xa xb xn 23).fr ((Chg.refl _ _).alloc (.cells #[.int .i64 yk, .int .i64 ya, .int .i64 yb, .int .i64 yn] 23))
  have hby := BoxAt.new (W.alloc (.cells #[.int .i64 xk, .int .i64 xa, .int .i64 xb, .int .i64 xn] 23)) yk ya yb yn 23
  rw [World.size_alloc] at hby
  have h100' : ¬ (100 : Int) < (ps.length : Int) := by omega
  clear hv1 hv2 hv3 hP hCx
  go_enter Try.func5, Try.ntmps5
  go_wp2_with fail
  refine (alive9_any _).mono ?_
  rintro e w1 ⟨rfl, hC1⟩
  have hgr := great9_any _ ps w1 (HP.out.fr (hCy.tr hC1))
  rw [hg] at hgr
  go_wp2_with (go_at_call 14; (with_reducible refine hgr.mono ?_); rintro e w1' ⟨rfl, rfl⟩)
  have hPA := HP.out.fr (hCy.tr hC1)
  have hnew := newAny s _ ps _ hPA (by omega) hlens.2
  have hNl := noteN_len s ps
  have hNm := noteN_may s ps
  obtain ⟨BG, hBG⟩ : ∃ BG, begN s ps = BG := ⟨_, rfl⟩
  obtain ⟨N, hN⟩ : ∃ N, noteN s ps = N := ⟨_, rfl⟩
  rw [hBG, hN] at hnew
  rw [hN] at hNl hNm
  have HBG := Lib.hid hBG
  have HN := Lib.hid hN
  clear hBG hN
  refine hnew.mono ?_
  clear hnew hgr hPA
  rintro e w2 ⟨lb, mb, base, vl, stp, rfl, hL, _, hC2⟩
  have hnt := notes_any hL (Nat.le_trans hNl (by omega))
  go_wp2_with fail
  refine hnt.mono ?_
  clear hnt
  rintro e w3 ⟨vb, rfl, hob, hC3⟩
  replace hob : w3.ownsRow w2.heap.size 23 4 vb N.length (flatN N) := hob
  have hL3 := hL.chg hC3 id id (fun _ _ => id)
  obtain ⟨aob, Lb, cb, rfl, hLb⟩ := owns_name hob
  have hCA := (hC1.tr hC2).tr hC3
  have hbx3 := (hbx.fr hCA)
  have hby3 := (hby.fr hCA)
  obtain ⟨x0, x1, x2, x3⟩ := id hbx3
  obtain ⟨y0, y1, y2, y3⟩ := id hby3
  have hbs := bytes9_any _ [⟨xk, xa, xb, xn⟩, ⟨yk, ya, yb, yn⟩] _ (nts_lit w3 #[.int .i64 xk, .int .i64 xa, .int .i64 xb, .int .i64 xn, .int .i64 yk, .int .i64 ya, .int .i64 yb, .int .i64 yn] 23 [⟨xk, xa, xb, xn⟩, ⟨yk, ya, yb, yn⟩] 2 rfl) (by simp [hx, hy]) (by simp)
  go_wp2_with fail
  refine hbs.mono ?_
  clear hbs x0 x1 x2 x3 y0 y1 y2 y3 hL
  rintro e w4 ⟨vc, rfl, hRc, hC4⟩
  have hCB := ((Chg.refl (fun _ => False) w3).alloc (.cells #[.int .i64 xk, .int .i64 xa, .int .i64 xb, .int .i64 xn, .int .i64 yk, .int .i64 ya, .int .i64 yb, .int .i64 yn] 23)).tr hC4
  have hbx4 := hbx3.fr hCB
  have hby4 := hby3.fr hCB
  obtain ⟨x0, x1, x2, x3⟩ := id hbx4
  obtain ⟨y0, y1, y2, y3⟩ := id hby4
  have p1 := fun w => encode_any xk xa xb xn hx.2.2.2.2 w
  have p2 := fun w => encode_any yk ya yb yn hy.2.2.2.2 w
  unfold noteV at p1 p2
  have hEx := encE_or xk xa xb xn
  have hEy := encE_or yk ya yb yn
  generalize encE xk xa xb xn = EX at *
  generalize encE yk ya yb yn = EY at *
  go_wp2_with fail
  refine (p1 _).mono ?_
  clear p1 x0 x1 x2 x3 y0 y1 y2 y3
  rintro e w5 ⟨v5, rfl, _, hC5⟩
  have hbx5 := hbx4.fr hC5
  have hby5 := hby4.fr hC5
  obtain ⟨x0, x1, x2, x3⟩ := id hbx5
  obtain ⟨y0, y1, y2, y3⟩ := id hby5
  go_wp2_with fail
  refine (p2 _).mono ?_
  clear p2 x0 x1 x2 x3 y0 y1 y2 y3
  rintro e w6 ⟨v6, rfl, _, hC6⟩
  have hCD := (hCB.tr hC5).tr hC6
  have hbx6 := hbx5.fr hC6
  have hby6 := hby5.fr hC6
  obtain ⟨x0, x1, x2, x3⟩ := id hbx6
  obtain ⟨y0, y1, y2, y3⟩ := id hby6
  have hL6 := hL3.chg hCD id id (fun _ _ => id)
  have hR6 := hRc.chg (hC5.tr hC6) (fun _ _ => id)
  have hNb := Nts.of_owns (hCD.owns hob (fun _ _ => id))
  have hCE := (hCy.tr hCA).tr hCD
  have pb := begun_any hL6
  clear hL3 hRc hob hC1 hC2 hC3 hC4 hC5 hC6 hCA hCB hbx hbx3 hbx4 hbx5 hby hby3 hby4 hby5 hCy
  rcases hEx with ⟨hmx, rfl⟩ | ⟨_, rfl⟩
  · rcases hEy with ⟨hmy, rfl⟩ | ⟨_, rfl⟩
    · by_cases hk : xk = 3
      · subst hk
        by_cases hk2 : yk = 3
        · subst hk2
          cases BG with
          | false =>
            go_wp2_with (go_at_call 18; (with_reducible refine pb.mono ?_); rintro e w7 ⟨rfl, rfl⟩)
            go_ret
            exact ⟨rfl, hCE⟩
          | true =>
            have hkw : IntKind.i64.wrap ((ps.length : Int) - 1) = (ps.length : Int) - 1 := IntWalk.i64_in _ (by omega)
            by_cases hlen : N.length + 1 = ps.length
            · have hq : ((Lb : Int) != (ps.length : Int) - 1) = false := by have := hLb.out; rw [bne_eq_false_iff_eq]; omega
              by_cases h0 : Lb = 0
              · subst h0
                have hpl : (ps.length : Int) - 1 = 0 := by have := hLb.out; omega
                clear hq
                have hend : ∀ y, N.getLast? = some y → y.k ≤ 3 := fun y hy => by
                  have : N = [] := List.eq_nil_of_length_eq_zero hLb.out.symm
                  rw [this] at hy
                  simp at hy
                obtain ⟨hn1, hn2, hn3⟩ := last_plain HBG.out HN.out hlen hend ⟨hmx, hx⟩ ⟨hmy, hy⟩ rfl rfl
                have hlx := (enc_may hmx hx).2.2.2
                have hly := (enc_may hmy hy).2.2.2
                obtain ⟨vsc, hc1, hc2⟩ := hR6
                obtain ⟨aoc, Lc, cc, rfl, hLc⟩ := owns_name hc1
                have hLc' : Lc = 2 := hLc.out
                subst hLc'
                have hPW := HP.out.fr hCE
                obtain ⟨vsl, u1, u2, u3, u4⟩ := pay_parts hPW
                obtain ⟨vsr, t1, t2, t3, t4⟩ := rowp_parts hc1 hc2
                obtain ⟨i0, hinf, hz0, hz1, hz2⟩ := info_parts info_bytes
                have HU := Lib.hid u4
                have HT := Lib.hid t4
                have HU2 := Lib.hid u2
                have HT2 := Lib.hid t2
                clear u2 t2 u4 t4 hc1 hc2 hPW hlen hend
                go_wp2_with fail
                refine pb.mono ?_
                rintro e w7 ⟨rfl, rfl⟩
                go_wp2_with (first
                  | (at_builtin; (refine wpList_append_own_any rfl (.tmp 101) (.tmp 102) 36 rfl w7.heap.size 24 i0 (.slice none 0 0) 1 24 und_pays hinf hz0 hz1 hz2 rfl (by decide) (.slice (some ⟨w7.heap.size, 0, none⟩) 0 0) 0 [] rfl (World.ownsRow_lit w7 #[] 0 (Nat.le_refl _) (Nat.zero_le _) rfl) ao ps.length c _ rfl u1 (HU2.out _ ((Chg.refl (fun _ => False) w7).alloc (.cells #[] 24))) u3 (by unfold maxLen; omega) (by omega) (by simp) ?_; intro v8 w8 hown8 hg8 _ hO8; have hC8 : Chg (fun _ => False) w7 w8 := ((Chg.refl (fun _ => False) w7).alloc (.cells #[] 24)).grown hg8 (fun k e => .inr (by simp [Value.ownBlock] at e; omega))))
                  | (at_builtin; (refine wpList_append_own_any rfl (.tmp 103) (.tmp 104) 36 rfl w7.heap.size 24 i0 (.slice none 0 0) 1 24 und_pays hinf hz0 hz1 hz2 rfl (by decide) v8 _ _ rfl hown8 aoc 2 cc _ rfl t1 (HT2.out _ hC8) t3 (by unfold maxLen; omega) (by omega) hC8.size ?_; intro v9 w9 hown9 hg9 _ hO9; have hC9 : Chg (fun _ => False) w7 w9 := hC8.grown hg9 (fun k e => .inr (hown8.lt k e).1))))
                rw [List.nil_append] at hown9
                have hP9 := pay_cat hown9 HU.out.1 HT.out.1 (HU.out.2 _ hC9) (HT.out.2 _ hC9)
                rw [List.map_cons, List.map_cons, List.map_nil] at hP9
                have hnw := newP_any s _ v9 w9 hP9 (by simp; omega) (fun xs hx => by
                  rcases List.mem_append.1 hx with h | h
                  · exact hlens.2 xs h
                  · rcases List.mem_cons.1 h with rfl | h
                    · rw [hlx]; decide
                    · rw [List.mem_singleton.1 h, hly]; decide) true _ _ hn1 hn2 hn3
                refine hnw.mono ?_
                clear hnw hP9 hown9 hg9 hO9 hown8 hg8 hO8 hC8 u1 u3 t1 t3
                rintro e w10 ⟨lb2, mb2, ba2, vl2, st2, rfl, hLm, _, hC10⟩
                have hC7 := hC9.tr hC10
                have hLa := hL6.chg hC7 id id (fun _ _ => id)
                have hbx7 := hbx6.fr hC7
                have hby7 := hby6.fr hC7
                clear x0 x1 x2 x3 y0 y1 y2 y3
                obtain ⟨x0, x1, x2, x3⟩ := id hbx7
                obtain ⟨y0, y1, y2, y3⟩ := id hby7
                have hokf : ∀ z ∈ (fil N).reverse, z.ok := fun z hz => (hNm z (fil_sub hz)).2
                have hokm : ∀ z ∈ (⟨3, ya, yb, yn⟩ : Nt) :: ⟨3, xa, xb, xn⟩ :: (fil N).reverse, z.ok := fun z hz => by
                  rcases List.mem_cons.1 hz with rfl | hz
                  · exact hy
                  · rcases List.mem_cons.1 hz with rfl | hz
                    · exact hx
                    · exact hokf z hz
                have hfl := fil_len N
                obtain ⟨DD, hDD⟩ : ∃ DD : Int, (doneN (fil N).reverse xa : Int) = DD := ⟨_, rfl⟩
                have hD1 : (doneN ((⟨3, ya, yb, yn⟩ : Nt) :: ⟨3, xa, xb, xn⟩ :: (fil N).reverse) xa : Int) = DD := by
                  rw [doneN_cons (three_two _ _ _), doneN_cons (three_two _ _ _)]
                  exact hDD
                have d1 := fun w' (h : Chg (fun _ => False) w10 w') => done_of (hLm.chg h id id (fun _ _ => id)) hokm (by simp at hfl; simp; omega) xa DD hD1
                have d2 := fun w' (h : Chg (fun _ => False) w10 w') => done_of (hLa.chg h id id (fun _ _ => id)) hokf (by simp at hfl; simp; omega) xa DD hDD
                have r2 := fun w' (h : Chg (fun _ => False) w10 w') => run_of (hLm.chg h id id (fun _ _ => id)) hokm ya yb hy.2.1 hy.2.2.1 yn true (by simp [fileOf]) (fun h => by cases h)
                have hCF := hCE.tr hC7
                clear hn1 hn2 hn3 hlx hly hfl hNl hNm hDD hD1 hLa
                by_cases hs : ya = xa ∧ yb = xb
                · obtain ⟨rfl, rfl⟩ := hs
                  have r1 := run_of hLm hokm ya yb hx.2.1 hx.2.2.1 yn true (by simp [fileOf]) (fun h => by cases h)
                  clear hLm hokm
                  have bq1 : (yn == yn) = true := beq_self_eq_true yn
                  have bq2 : (xn == xn) = true := beq_self_eq_true xn
                  have bq3 : (DD == DD) = true := beq_self_eq_true DD
                  go_wp2_with fail
                  refine r1.mono ?_
                  clear r1
                  rintro e w11 ⟨rfl, hC11⟩
                  replace x0 := hC11.cell x0 id
                  replace x1 := hC11.cell x1 id
                  replace x2 := hC11.cell x2 id
                  replace x3 := hC11.cell x3 id
                  replace y0 := hC11.cell y0 id
                  replace y1 := hC11.cell y1 id
                  replace y2 := hC11.cell y2 id
                  replace y3 := hC11.cell y3 id
                  go_wp2_with fail
                  refine (r2 _ hC11).mono ?_
                  clear r2
                  rintro e w12 ⟨rfl, hC12⟩
                  replace x0 := hC12.cell x0 id
                  replace x1 := hC12.cell x1 id
                  replace x2 := hC12.cell x2 id
                  replace x3 := hC12.cell x3 id
                  replace y0 := hC12.cell y0 id
                  replace y1 := hC12.cell y1 id
                  replace y2 := hC12.cell y2 id
                  replace y3 := hC12.cell y3 id
                  have hC1112 := hC11.tr hC12
                  have e1 : ∀ w', Chg (fun _ => False) w12 w' → Calls Try.prog 20 #[.pointer (some ⟨lb2, 0, none⟩), .int .i64 ya] w' (fun e w'' => e = .returned (.int .i64 DD) ∧ Chg (fun _ => False) w12 w'') := fun w' h => (d1 w' (hC1112.tr h)).mono (fun e w'' hh => ⟨hh.1, h.tr hh.2⟩)
                  have e2 : ∀ w', Chg (fun _ => False) w12 w' → Calls Try.prog 20 #[.pointer (some ⟨lb, 0, none⟩), .int .i64 ya] w' (fun e w'' => e = .returned (.int .i64 DD) ∧ Chg (fun _ => False) w12 w'') := fun w' h => (d2 w' (hC1112.tr h)).mono (fun e w'' hh => ⟨hh.1, h.tr hh.2⟩)
                  clear d1 d2
                  have KP : ∀ w', Chg (fun _ => False) w12 w' → (Chg (fun _ => False) w12 w' ∧ w'.cell? ⟨W.heap.size, 1, none⟩ = some (.int .i64 ya) ∧ w'.cell? ⟨W.heap.size, 3, none⟩ = some (.int .i64 xn) ∧ w'.cell? ⟨W.heap.size + 1, 3, none⟩ = some (.int .i64 yn)) := fun w' h => ⟨h, h.cell x1 id, h.cell x3 id, h.cell y3 id⟩
                  have HKP := Lib.hid KP
                  clear KP
                  go_wp2_with fail
                  refine wp_region_held_drew (S := fun w' => Chg (fun _ => False) w12 w' ∧ w'.cell? ⟨W.heap.size, 1, none⟩ = some (.int .i64 ya) ∧ w'.cell? ⟨W.heap.size, 3, none⟩ = some (.int .i64 xn) ∧ w'.cell? ⟨W.heap.size + 1, 3, none⟩ = some (.int .i64 yn)) (by kernel_rfl) (HKP.out _ ((Chg.refl _ _).drew)) (fun hHeld => ?_)
                  refine' wpAnyH_take (i := 0) (oi := _) (v := .bool true) ?hiaa0 (by kernel_rfl) (by kernel_rfl) (by kernel_rfl) ?hqaa0 (Or.inl ⟨?hwaa0, fun w hSw => ?hyaa0⟩) hHeld ?hkaa0
                  case hiaa0 => (simp only [List.getElem?_toArray, List.getElem?_cons_zero]; rfl)
                  case hqaa0 => exact fun _ _ _ h => h
                  case hwaa0 => rfl
                  case hyaa0 => first | (go_simp; done) | (go_simp; with_reducible rfl)
                  simp only [Act.put, List.setIfInBounds_toArray, List.set_cons_zero, List.set_cons_succ]
                  refine' wpAnyH_take (i := 1) (oi := _) (v := .bool true) ?hiaa1 (by kernel_rfl) (by kernel_rfl) (by kernel_rfl) ?hqaa1 (Or.inl ⟨?hwaa1, fun w hSw => ?hyaa1⟩) hHeld ?hkaa1
                  case hiaa1 => (simp only [List.getElem?_toArray, List.getElem?_cons_succ, List.getElem?_cons_zero]; rfl)
                  case hqaa1 => exact fun _ _ _ h => h
                  case hwaa1 => rfl
                  case hyaa1 => first | (go_simp; done) | (go_simp; with_reducible rfl)
                  simp only [Act.put, List.setIfInBounds_toArray, List.set_cons_zero, List.set_cons_succ]
                  refine' wpAnyH_take (i := 2) (oi := _) (v := .bool true) ?hiaa2 (by kernel_rfl) (by kernel_rfl) (by kernel_rfl) ?hqaa2 (Or.inl ⟨?hwaa2, fun w hSw => ?hyaa2⟩) hHeld ?hkaa2
                  case hiaa2 => (simp only [List.getElem?_toArray, List.getElem?_cons_succ, List.getElem?_cons_zero]; rfl)
                  case hqaa2 => exact fun _ _ _ h => h
                  case hwaa2 => rfl
                  case hyaa2 => first | (go_simp; done) | (go_simp; with_reducible rfl)
                  simp only [Act.put, List.setIfInBounds_toArray, List.set_cons_zero, List.set_cons_succ]
                  refine' wpAnyH_take (i := 3) (oi := _) (v := .bool true) ?hiaa3 (by kernel_rfl) (by kernel_rfl) (by kernel_rfl) ?hqaa3 (Or.inl ⟨?hwaa3, fun w hSw => ?hyaa3⟩) hHeld ?hkaa3
                  case hiaa3 => (simp only [List.getElem?_toArray, List.getElem?_cons_succ, List.getElem?_cons_zero]; rfl)
                  case hqaa3 => exact fun _ _ _ h => h
                  case hwaa3 => rfl
                  case hyaa3 => first | (go_simp; done) | (go_simp; with_reducible rfl)
                  simp only [Act.put, List.setIfInBounds_toArray, List.set_cons_zero, List.set_cons_succ]
                  refine' wpAnyH_take (i := 4) (oi := _) (v := .bool true) ?hiaa4 (by kernel_rfl) (by kernel_rfl) (by kernel_rfl) ?hqaa4 (Or.inl ⟨?hwaa4, fun w hSw => ?hyaa4⟩) hHeld ?hkaa4
                  case hiaa4 => (simp only [List.getElem?_toArray, List.getElem?_cons_succ, List.getElem?_cons_zero]; rfl)
                  case hqaa4 => exact fun _ _ _ h => h
                  case hwaa4 => rfl
                  case hyaa4 => first | (go_simp; done) | (go_simp; with_reducible rfl)
                  simp only [Act.put, List.setIfInBounds_toArray, List.set_cons_zero, List.set_cons_succ]
                  refine' wpAnyH_take (i := 5) (oi := _) (v := .bool true) ?hiaa5 (by kernel_rfl) (by kernel_rfl) (by kernel_rfl) ?hqaa5 (Or.inl ⟨?hwaa5, fun w hSw => ?hyaa5⟩) hHeld ?hkaa5
                  case hiaa5 => (simp only [List.getElem?_toArray, List.getElem?_cons_succ, List.getElem?_cons_zero]; rfl)
                  case hqaa5 => exact fun _ _ _ h => h
                  case hwaa5 => rfl
                  case hyaa5 => first | (go_simp; done) | (go_simp; with_reducible rfl)
                  simp only [Act.put, List.setIfInBounds_toArray, List.set_cons_zero, List.set_cons_succ]
                  refine' wpAnyH_take (i := 6) (oi := _) (v := .bool true) ?hiaa6 (by kernel_rfl) (by kernel_rfl) (by kernel_rfl) ?hqaa6 (Or.inl ⟨?hwaa6, fun w hSw => ?hyaa6⟩) hHeld ?hkaa6
                  case hiaa6 => (simp only [List.getElem?_toArray, List.getElem?_cons_succ, List.getElem?_cons_zero]; rfl)
                  case hqaa6 => exact fun _ _ _ h => h
                  case hwaa6 => rfl
                  case hyaa6 => first | (go_simp; done) | (go_simp; with_reducible rfl)
                  simp only [Act.put, List.setIfInBounds_toArray, List.set_cons_zero, List.set_cons_succ]
                  refine' wpAnyH_take (i := 7) (oi := _) (v := .bool true) ?hiaa7 (by kernel_rfl) (by kernel_rfl) (by kernel_rfl) ?hqaa7 (Or.inl ⟨?hwaa7, fun w hSw => ?hyaa7⟩) hHeld ?hkaa7
                  case hiaa7 => (simp only [List.getElem?_toArray, List.getElem?_cons_succ, List.getElem?_cons_zero]; rfl)
                  case hqaa7 => exact fun _ _ _ h => h
                  case hwaa7 => rfl
                  case hyaa7 => first | (go_simp; done) | (go_simp; with_reducible rfl)
                  simp only [Act.put, List.setIfInBounds_toArray, List.set_cons_zero, List.set_cons_succ]
                  refine' wpAnyH_take (i := 8) (oi := _) (v := .int .i64 yn) ?hiaa8 (by kernel_rfl) (by kernel_rfl) (by kernel_rfl) ?hqaa8 (Or.inl ⟨?hwaa8, fun w hSw => ?hyaa8⟩) hHeld ?hkaa8
                  case hiaa8 => (simp only [List.getElem?_toArray, List.getElem?_cons_succ, List.getElem?_cons_zero]; rfl)
                  case hqaa8 => exact fun _ _ _ h => h
                  case hwaa8 => rfl
                  case hyaa8 => first | (go_simp; done) | (go_simp; with_reducible rfl)
                  simp only [Act.put, List.setIfInBounds_toArray, List.set_cons_zero, List.set_cons_succ]
                  refine' wpAnyH_take (i := 9) (oi := _) (v := .pointer (some ⟨W.heap.size + 1, 3, none⟩)) ?hiaa9 (by kernel_rfl) (by kernel_rfl) (by kernel_rfl) ?hqaa9 (Or.inl ⟨?hwaa9, fun w hSw => ?hyaa9⟩) hHeld ?hkaa9
                  case hiaa9 => (simp only [List.getElem?_toArray, List.getElem?_cons_succ, List.getElem?_cons_zero]; rfl)
                  case hqaa9 => exact fun _ _ _ h => h
                  case hwaa9 => rfl
                  case hyaa9 => first | (go_simp; done) | (go_simp; with_reducible rfl)
                  simp only [Act.put, List.setIfInBounds_toArray, List.set_cons_zero, List.set_cons_succ]
                  refine' wpAnyH_take (i := 10) (oi := _) (v := .int .i64 yn) ?hiaa10 (by kernel_rfl) (by kernel_rfl) (by kernel_rfl) ?hqaa10 (Or.inl ⟨?hwaa10, fun w hSw => ?hyaa10⟩) hHeld ?hkaa10
                  case hiaa10 => (simp only [List.getElem?_toArray, List.getElem?_cons_succ, List.getElem?_cons_zero]; rfl)
                  case hqaa10 => exact fun _ _ _ h => h
                  case hwaa10 => rfl
                  case hyaa10 => first | (go_simp; done) | (go_simp; with_reducible rfl)
                  simp only [Act.put, List.setIfInBounds_toArray, List.set_cons_zero, List.set_cons_succ]
                  refine' wpAnyH_take (i := 11) (oi := _) (v := .bool true) ?hiaa11 (by kernel_rfl) (by kernel_rfl) (by kernel_rfl) ?hqaa11 (Or.inl ⟨?hwaa11, fun w hSw => ?hyaa11⟩) hHeld ?hkaa11
                  case hiaa11 => (simp only [List.getElem?_toArray, List.getElem?_cons_succ, List.getElem?_cons_zero]; rfl)
                  case hqaa11 => exact fun _ _ _ h => h
                  case hwaa11 => rfl
                  case hyaa11 => first | (go_simp; done) | (go_simp; with_reducible rfl)
                  simp only [Act.put, List.setIfInBounds_toArray, List.set_cons_zero, List.set_cons_succ]
                  refine' wpAnyH_take (i := 12) (oi := _) (v := .bool true) ?hiaa12 (by kernel_rfl) (by kernel_rfl) (by kernel_rfl) ?hqaa12 (Or.inl ⟨?hwaa12, fun w hSw => ?hyaa12⟩) hHeld ?hkaa12
                  case hiaa12 => (simp only [List.getElem?_toArray, List.getElem?_cons_succ, List.getElem?_cons_zero]; rfl)
                  case hqaa12 => exact fun _ _ _ h => h
                  case hwaa12 => rfl
                  case hyaa12 => first | (go_simp; done) | (go_simp; with_reducible rfl)
                  simp only [Act.put, List.setIfInBounds_toArray, List.set_cons_zero, List.set_cons_succ]
                  refine' wpAnyH_take (i := 13) (oi := _) (v := .bool true) ?hiaa13 (by kernel_rfl) (by kernel_rfl) (by kernel_rfl) ?hqaa13 (Or.inl ⟨?hwaa13, fun w hSw => ?hyaa13⟩) hHeld ?hkaa13
                  case hiaa13 => (simp only [List.getElem?_toArray, List.getElem?_cons_succ, List.getElem?_cons_zero]; rfl)
                  case hqaa13 => exact fun _ _ _ h => h
                  case hwaa13 => rfl
                  case hyaa13 => first | (go_simp; done) | (go_simp; with_reducible rfl)
                  simp only [Act.put, List.setIfInBounds_toArray, List.set_cons_zero, List.set_cons_succ]
                  refine' wpAnyH_take (i := 14) (oi := _) (v := .bool true) ?hiaa14 (by kernel_rfl) (by kernel_rfl) (by kernel_rfl) ?hqaa14 (Or.inl ⟨?hwaa14, fun w hSw => ?hyaa14⟩) hHeld ?hkaa14
                  case hiaa14 => (simp only [List.getElem?_toArray, List.getElem?_cons_succ, List.getElem?_cons_zero]; rfl)
                  case hqaa14 => exact fun _ _ _ h => h
                  case hwaa14 => rfl
                  case hyaa14 => first | (go_simp; done) | (go_simp; with_reducible rfl)
                  simp only [Act.put, List.setIfInBounds_toArray, List.set_cons_zero, List.set_cons_succ]
                  refine' wpAnyH_take (i := 15) (oi := _) (v := .bool true) ?hiaa15 (by kernel_rfl) (by kernel_rfl) (by kernel_rfl) ?hqaa15 (Or.inl ⟨?hwaa15, fun w hSw => ?hyaa15⟩) hHeld ?hkaa15
                  case hiaa15 => (simp only [List.getElem?_toArray, List.getElem?_cons_succ, List.getElem?_cons_zero]; rfl)
                  case hqaa15 => exact fun _ _ _ h => h
                  case hwaa15 => rfl
                  case hyaa15 => first | (go_simp; done) | (go_simp; with_reducible rfl)
                  simp only [Act.put, List.setIfInBounds_toArray, List.set_cons_zero, List.set_cons_succ]
                  refine' wpAnyH_take (i := 16) (oi := _) (v := .int .i64 yn) ?hiaa16 (by kernel_rfl) (by kernel_rfl) (by kernel_rfl) ?hqaa16 (Or.inl ⟨?hwaa16, fun w hSw => ?hyaa16⟩) hHeld ?hkaa16
                  case hiaa16 => (simp only [List.getElem?_toArray, List.getElem?_cons_succ, List.getElem?_cons_zero]; rfl)
                  case hqaa16 => exact fun _ _ _ h => h
                  case hwaa16 => rfl
                  case hyaa16 => first | (go_simp; done) | (go_simp; with_reducible rfl)
                  simp only [Act.put, List.setIfInBounds_toArray, List.set_cons_zero, List.set_cons_succ]
                  refine' wpAnyH_take (i := 17) (oi := _) (v := .pointer (some ⟨W.heap.size + 1, 3, none⟩)) ?hiaa17 (by kernel_rfl) (by kernel_rfl) (by kernel_rfl) ?hqaa17 (Or.inl ⟨?hwaa17, fun w hSw => ?hyaa17⟩) hHeld ?hkaa17
                  case hiaa17 => (simp only [List.getElem?_toArray, List.getElem?_cons_succ, List.getElem?_cons_zero]; rfl)
                  case hqaa17 => exact fun _ _ _ h => h
                  case hwaa17 => rfl
                  case hyaa17 => first | (go_simp; done) | (go_simp; with_reducible rfl)
                  simp only [Act.put, List.setIfInBounds_toArray, List.set_cons_zero, List.set_cons_succ]
                  refine' wpAnyH_take (i := 18) (oi := _) (v := .int .i64 yn) ?hiaa18 (by kernel_rfl) (by kernel_rfl) (by kernel_rfl) ?hqaa18 (Or.inl ⟨?hwaa18, fun w hSw => ?hyaa18⟩) hHeld ?hkaa18
                  case hiaa18 => (simp only [List.getElem?_toArray, List.getElem?_cons_succ, List.getElem?_cons_zero]; rfl)
                  case hqaa18 => exact fun _ _ _ h => h
                  case hwaa18 => rfl
                  case hyaa18 => first | (go_simp; done) | (go_simp; with_reducible rfl)
                  simp only [Act.put, List.setIfInBounds_toArray, List.set_cons_zero, List.set_cons_succ]
                  refine' wpAnyH_take (i := 19) (oi := _) (v := .bool true) ?hiaa19 (by kernel_rfl) (by kernel_rfl) (by kernel_rfl) ?hqaa19 (Or.inl ⟨?hwaa19, fun w hSw => ?hyaa19⟩) hHeld ?hkaa19
                  case hiaa19 => (simp only [List.getElem?_toArray, List.getElem?_cons_succ, List.getElem?_cons_zero]; rfl)
                  case hqaa19 => exact fun _ _ _ h => h
                  case hwaa19 => rfl
                  case hyaa19 => first | (go_simp; done) | (go_simp; with_reducible rfl)
                  simp only [Act.put, List.setIfInBounds_toArray, List.set_cons_zero, List.set_cons_succ]
                  refine' wpAnyH_take (i := 20) (oi := _) (v := .bool true) ?hiaa20 (by kernel_rfl) (by kernel_rfl) (by kernel_rfl) ?hqaa20 (Or.inl ⟨?hwaa20, fun w hSw => ?hyaa20⟩) hHeld ?hkaa20
                  case hiaa20 => (simp only [List.getElem?_toArray, List.getElem?_cons_succ, List.getElem?_cons_zero]; rfl)
                  case hqaa20 => exact fun _ _ _ h => h
                  case hwaa20 => rfl
                  case hyaa20 => first | (go_simp; done) | (go_simp; with_reducible rfl)
                  simp only [Act.put, List.setIfInBounds_toArray, List.set_cons_zero, List.set_cons_succ]
                  refine' wpAnyH_take (i := 21) (oi := _) (v := .bool true) ?hiaa21 (by kernel_rfl) (by kernel_rfl) (by kernel_rfl) ?hqaa21 (Or.inl ⟨?hwaa21, fun w hSw => ?hyaa21⟩) hHeld ?hkaa21
                  case hiaa21 => (simp only [List.getElem?_toArray, List.getElem?_cons_succ, List.getElem?_cons_zero]; rfl)
                  case hqaa21 => exact fun _ _ _ h => h
                  case hwaa21 => rfl
                  case hyaa21 => first | (go_simp; done) | (go_simp; with_reducible rfl)
                  simp only [Act.put, List.setIfInBounds_toArray, List.set_cons_zero, List.set_cons_succ]
                  refine' wpAnyH_take (i := 22) (oi := _) (v := undef) ?hiaa22 (by kernel_rfl) (by kernel_rfl) (by kernel_rfl) ?hqaa22 (Or.inr ⟨?hwaa22, rfl⟩) hHeld ?hkaa22
                  case hiaa22 => (simp only [List.getElem?_toArray, List.getElem?_cons_succ, List.getElem?_cons_zero]; rfl)
                  case hqaa22 => exact fun _ _ _ h => h
                  case hwaa22 => rfl
                  simp only [Act.put, List.setIfInBounds_toArray, List.set_cons_zero, List.set_cons_succ]
                  refine' wpAnyH_take (i := 23) (oi := _) (v := undef) ?hiaa23 (by kernel_rfl) (by kernel_rfl) (by kernel_rfl) ?hqaa23 (Or.inr ⟨?hwaa23, rfl⟩) hHeld ?hkaa23
                  case hiaa23 => (simp only [List.getElem?_toArray, List.getElem?_cons_succ, List.getElem?_cons_zero]; rfl)
                  case hqaa23 => exact fun _ _ _ h => h
                  case hwaa23 => rfl
                  simp only [Act.put, List.setIfInBounds_toArray, List.set_cons_zero, List.set_cons_succ]
                  refine' wpAnyH_take (i := 24) (oi := _) (v := undef) ?hiaa24 (by kernel_rfl) (by kernel_rfl) (by kernel_rfl) ?hqaa24 (Or.inr ⟨?hwaa24, rfl⟩) hHeld ?hkaa24
                  case hiaa24 => (simp only [List.getElem?_toArray, List.getElem?_cons_succ, List.getElem?_cons_zero]; rfl)
                  case hqaa24 => exact fun _ _ _ h => h
                  case hwaa24 => rfl
                  simp only [Act.put, List.setIfInBounds_toArray, List.set_cons_zero, List.set_cons_succ]
                  refine' wpAnyH_take (i := 25) (oi := _) (v := undef) ?hiaa25 (by kernel_rfl) (by kernel_rfl) (by kernel_rfl) ?hqaa25 (Or.inr ⟨?hwaa25, rfl⟩) hHeld ?hkaa25
                  case hiaa25 => (simp only [List.getElem?_toArray, List.getElem?_cons_succ, List.getElem?_cons_zero]; rfl)
                  case hqaa25 => exact fun _ _ _ h => h
                  case hwaa25 => rfl
                  simp only [Act.put, List.setIfInBounds_toArray, List.set_cons_zero, List.set_cons_succ]
                  refine' wpAnyH_take (i := 26) (oi := _) (v := undef) ?hiaa26 (by kernel_rfl) (by kernel_rfl) (by kernel_rfl) ?hqaa26 (Or.inr ⟨?hwaa26, rfl⟩) hHeld ?hkaa26
                  case hiaa26 => (simp only [List.getElem?_toArray, List.getElem?_cons_succ, List.getElem?_cons_zero]; rfl)
                  case hqaa26 => exact fun _ _ _ h => h
                  case hwaa26 => rfl
                  simp only [Act.put, List.setIfInBounds_toArray, List.set_cons_zero, List.set_cons_succ]
                  refine' wpAnyH_take (i := 27) (oi := _) (v := undef) ?hiaa27 (by kernel_rfl) (by kernel_rfl) (by kernel_rfl) ?hqaa27 (Or.inr ⟨?hwaa27, rfl⟩) hHeld ?hkaa27
                  case hiaa27 => (simp only [List.getElem?_toArray, List.getElem?_cons_succ, List.getElem?_cons_zero]; rfl)
                  case hqaa27 => exact fun _ _ _ h => h
                  case hwaa27 => rfl
                  simp only [Act.put, List.setIfInBounds_toArray, List.set_cons_zero, List.set_cons_succ]
                  refine' wpAnyH_take (i := 28) (oi := _) (v := undef) ?hiaa28 (by kernel_rfl) (by kernel_rfl) (by kernel_rfl) ?hqaa28 (Or.inr ⟨?hwaa28, rfl⟩) hHeld ?hkaa28
                  case hiaa28 => (simp only [List.getElem?_toArray, List.getElem?_cons_succ, List.getElem?_cons_zero]; rfl)
                  case hqaa28 => exact fun _ _ _ h => h
                  case hwaa28 => rfl
                  simp only [Act.put, List.setIfInBounds_toArray, List.set_cons_zero, List.set_cons_succ]
                  refine' wpAnyH_take (i := 29) (oi := _) (v := undef) ?hiaa29 (by kernel_rfl) (by kernel_rfl) (by kernel_rfl) ?hqaa29 (Or.inr ⟨?hwaa29, rfl⟩) hHeld ?hkaa29
                  case hiaa29 => (simp only [List.getElem?_toArray, List.getElem?_cons_succ, List.getElem?_cons_zero]; rfl)
                  case hqaa29 => exact fun _ _ _ h => h
                  case hwaa29 => rfl
                  simp only [Act.put, List.setIfInBounds_toArray, List.set_cons_zero, List.set_cons_succ]
                  refine' wpAnyH_take (i := 30) (oi := _) (v := .bool true) ?hiaa30 (by kernel_rfl) (by kernel_rfl) (by kernel_rfl) ?hqaa30 (Or.inl ⟨?hwaa30, fun w hSw => ?hyaa30⟩) hHeld ?hkaa30
                  case hiaa30 => (simp only [List.getElem?_toArray, List.getElem?_cons_succ, List.getElem?_cons_zero]; rfl)
                  case hqaa30 => exact fun _ _ _ h => h
                  case hwaa30 => rfl
                  case hyaa30 => first | (go_simp; done) | (go_simp; with_reducible rfl)
                  simp only [Act.put, List.setIfInBounds_toArray, List.set_cons_zero, List.set_cons_succ]
                  refine' wpAnyH_take (i := 31) (oi := _) (v := .bool true) ?hiaa31 (by kernel_rfl) (by kernel_rfl) (by kernel_rfl) ?hqaa31 (Or.inl ⟨?hwaa31, fun w hSw => ?hyaa31⟩) hHeld ?hkaa31
                  case hiaa31 => (simp only [List.getElem?_toArray, List.getElem?_cons_succ, List.getElem?_cons_zero]; rfl)
                  case hqaa31 => exact fun _ _ _ h => h
                  case hwaa31 => rfl
                  case hyaa31 => first | (go_simp; done) | (go_simp; with_reducible rfl)
                  simp only [Act.put, List.setIfInBounds_toArray, List.set_cons_zero, List.set_cons_succ]
                  refine' wpAnyH_take (i := 32) (oi := _) (v := .bool true) ?hiaa32 (by kernel_rfl) (by kernel_rfl) (by kernel_rfl) ?hqaa32 (Or.inl ⟨?hwaa32, fun w hSw => ?hyaa32⟩) hHeld ?hkaa32
                  case hiaa32 => (simp only [List.getElem?_toArray, List.getElem?_cons_succ, List.getElem?_cons_zero]; rfl)
                  case hqaa32 => exact fun _ _ _ h => h
                  case hwaa32 => rfl
                  case hyaa32 => first | (go_simp; done) | (go_simp; with_reducible rfl)
                  simp only [Act.put, List.setIfInBounds_toArray, List.set_cons_zero, List.set_cons_succ]
                  refine' wpAnyH_take (i := 33) (oi := _) (v := .pointer (some ⟨lb2, 0, none⟩)) ?hiaa33 (by kernel_rfl) (by kernel_rfl) (by kernel_rfl) ?hqaa33 (Or.inl ⟨?hwaa33, fun w hSw => ?hyaa33⟩) hHeld ?hkaa33
                  case hiaa33 => (simp only [List.getElem?_toArray, List.getElem?_cons_succ, List.getElem?_cons_zero]; rfl)
                  case hqaa33 => exact fun _ _ _ h => h
                  case hwaa33 => rfl
                  case hyaa33 => first | (go_simp; done) | (go_simp; with_reducible rfl)
                  simp only [Act.put, List.setIfInBounds_toArray, List.set_cons_zero, List.set_cons_succ]
                  refine' wpAnyH_take (i := 34) (oi := _) (v := .pointer (some ⟨W.heap.size, 1, none⟩)) ?hiaa34 (by kernel_rfl) (by kernel_rfl) (by kernel_rfl) ?hqaa34 (Or.inl ⟨?hwaa34, fun w hSw => ?hyaa34⟩) hHeld ?hkaa34
                  case hiaa34 => (simp only [List.getElem?_toArray, List.getElem?_cons_succ, List.getElem?_cons_zero]; rfl)
                  case hqaa34 => exact fun _ _ _ h => h
                  case hwaa34 => rfl
                  case hyaa34 => first | (go_simp; done) | (go_simp; with_reducible rfl)
                  simp only [Act.put, List.setIfInBounds_toArray, List.set_cons_zero, List.set_cons_succ]
                  refine' wpAnyH_take (i := 35) (oi := _) (v := .int .i64 ya) ?hiaa35 (by kernel_rfl) (by kernel_rfl) (by kernel_rfl) ?hqaa35 (Or.inl ⟨?hwaa35, fun w hSw => ?hyaa35⟩) hHeld ?hkaa35
                  case hiaa35 => (simp only [List.getElem?_toArray, List.getElem?_cons_succ, List.getElem?_cons_zero]; rfl)
                  case hqaa35 => exact fun _ _ _ h => h
                  case hwaa35 => rfl
                  case hyaa35 => first | (go_simp; done) | (go_simp; with_reducible rfl)
                  simp only [Act.put, List.setIfInBounds_toArray, List.set_cons_zero, List.set_cons_succ]
                  refine' wpAnyH_take (i := 37) (oi := _) (v := .pointer (some ⟨lb, 0, none⟩)) ?hiaa37 (by kernel_rfl) (by kernel_rfl) (by kernel_rfl) ?hqaa37 (Or.inl ⟨?hwaa37, fun w hSw => ?hyaa37⟩) hHeld ?hkaa37
                  case hiaa37 => (simp only [List.getElem?_toArray, List.getElem?_cons_succ, List.getElem?_cons_zero]; rfl)
                  case hqaa37 => exact fun _ _ _ h => h
                  case hwaa37 => rfl
                  case hyaa37 => first | (go_simp; done) | (go_simp; with_reducible rfl)
                  simp only [Act.put, List.setIfInBounds_toArray, List.set_cons_zero, List.set_cons_succ]
                  refine' wpAnyH_take (i := 38) (oi := _) (v := .pointer (some ⟨W.heap.size, 1, none⟩)) ?hiaa38 (by kernel_rfl) (by kernel_rfl) (by kernel_rfl) ?hqaa38 (Or.inl ⟨?hwaa38, fun w hSw => ?hyaa38⟩) hHeld ?hkaa38
                  case hiaa38 => (simp only [List.getElem?_toArray, List.getElem?_cons_succ, List.getElem?_cons_zero]; rfl)
                  case hqaa38 => exact fun _ _ _ h => h
                  case hwaa38 => rfl
                  case hyaa38 => first | (go_simp; done) | (go_simp; with_reducible rfl)
                  simp only [Act.put, List.setIfInBounds_toArray, List.set_cons_zero, List.set_cons_succ]
                  refine' wpAnyH_take (i := 39) (oi := _) (v := .int .i64 ya) ?hiaa39 (by kernel_rfl) (by kernel_rfl) (by kernel_rfl) ?hqaa39 (Or.inl ⟨?hwaa39, fun w hSw => ?hyaa39⟩) hHeld ?hkaa39
                  case hiaa39 => (simp only [List.getElem?_toArray, List.getElem?_cons_succ, List.getElem?_cons_zero]; rfl)
                  case hqaa39 => exact fun _ _ _ h => h
                  case hwaa39 => rfl
                  case hyaa39 => first | (go_simp; done) | (go_simp; with_reducible rfl)
                  simp only [Act.put, List.setIfInBounds_toArray, List.set_cons_zero, List.set_cons_succ]
                  refine wpAnyH_ready (rs := [36]) (by kernel_rfl) (by simp) ?_
                  refine AllReadyH.cons rfl (fun K hK => ?_) AllReadyH.nil
                  go_simp
                  go_at_call 20
                  refine (e1 _ ((Chg.refl _ _).drew)).mono ?_
                  rintro e w13 ⟨rfl, hC13⟩
                  refine hK.out _ _ (HKP.out _ hC13) (fun hHeld => ?_)
                  clear hK K
                  refine wpAnyH_ready (rs := [40]) (by kernel_rfl) (by simp) ?_
                  refine AllReadyH.cons rfl (fun K hK => ?_) AllReadyH.nil
                  go_simp
                  go_at_call 20
                  refine (e2 _ hC13).mono ?_
                  rintro e w14 ⟨rfl, hC14⟩
                  refine hK.out _ _ (HKP.out _ hC14) (fun hHeld => ?_)
                  clear hK K
                  refine' wpAnyH_take (i := 41) (oi := _) (v := .bool true) ?hiaa41 (by kernel_rfl) (by kernel_rfl) (by kernel_rfl) ?hqaa41 (Or.inl ⟨?hwaa41, fun w hSw => ?hyaa41⟩) hHeld ?hkaa41
                  case hiaa41 => (simp only [List.getElem?_toArray, List.getElem?_cons_succ, List.getElem?_cons_zero]; rfl)
                  case hqaa41 => exact fun _ _ _ h => h
                  case hwaa41 => rfl
                  case hyaa41 => first | (go_simp; done) | (go_simp; with_reducible rfl)
                  simp only [Act.put, List.setIfInBounds_toArray, List.set_cons_zero, List.set_cons_succ]
                  refine' wpAnyH_take (i := 42) (oi := _) (v := .bool true) ?hiaa42 (by kernel_rfl) (by kernel_rfl) (by kernel_rfl) ?hqaa42 (Or.inl ⟨?hwaa42, fun w hSw => ?hyaa42⟩) hHeld ?hkaa42
                  case hiaa42 => (simp only [List.getElem?_toArray, List.getElem?_cons_succ, List.getElem?_cons_zero]; rfl)
                  case hqaa42 => exact fun _ _ _ h => h
                  case hwaa42 => rfl
                  case hyaa42 => first | (go_simp; done) | (go_simp; with_reducible rfl)
                  simp only [Act.put, List.setIfInBounds_toArray, List.set_cons_zero, List.set_cons_succ]
                  refine' wpAnyH_take (i := 43) (oi := _) (v := .bool true) ?hiaa43 (by kernel_rfl) (by kernel_rfl) (by kernel_rfl) ?hqaa43 (Or.inl ⟨?hwaa43, fun w hSw => ?hyaa43⟩) hHeld ?hkaa43
                  case hiaa43 => (simp only [List.getElem?_toArray, List.getElem?_cons_succ, List.getElem?_cons_zero]; rfl)
                  case hqaa43 => exact fun _ _ _ h => h
                  case hwaa43 => rfl
                  case hyaa43 => first | (go_simp; done) | (go_simp; with_reducible rfl)
                  simp only [Act.put, List.setIfInBounds_toArray, List.set_cons_zero, List.set_cons_succ]
                  refine wpAnyH_done (by kernel_rfl) ?_ _
                  go_wp2
                  go_ret
                  exact ⟨rfl, (hCF.tr hC1112).tr hC14⟩
                · have r1 := run_of hLm hokm xa xb hx.2.1 hx.2.2.1 xn true (by rw [fileOf, if_neg (fun h => hs h.2), fileOf, if_pos ⟨rfl, rfl, rfl⟩]; rfl) (fun h => by cases h)
                  clear hLm hokm
                  by_cases hs2 : xa = ya
                  · subst hs2
                    have hs3 : (xb == yb) = false := beq_eq_false_iff_ne.2 (fun e => hs ⟨rfl, e.symm⟩)
                    clear hs
                    have bq1 : (yn == yn) = true := beq_self_eq_true yn
                    have bq2 : (xn == xn) = true := beq_self_eq_true xn
                    have bq3 : (DD == DD) = true := beq_self_eq_true DD
                    go_wp2_with fail
                    refine r1.mono ?_
                    clear r1
                    rintro e w11 ⟨rfl, hC11⟩
                    replace x0 := hC11.cell x0 id
                    replace x1 := hC11.cell x1 id
                    replace x2 := hC11.cell x2 id
                    replace x3 := hC11.cell x3 id
                    replace y0 := hC11.cell y0 id
                    replace y1 := hC11.cell y1 id
                    replace y2 := hC11.cell y2 id
                    replace y3 := hC11.cell y3 id
                    go_wp2_with fail
                    refine (r2 _ hC11).mono ?_
                    clear r2
                    rintro e w12 ⟨rfl, hC12⟩
                    replace x0 := hC12.cell x0 id
                    replace x1 := hC12.cell x1 id
                    replace x2 := hC12.cell x2 id
                    replace x3 := hC12.cell x3 id
                    replace y0 := hC12.cell y0 id
                    replace y1 := hC12.cell y1 id
                    replace y2 := hC12.cell y2 id
                    replace y3 := hC12.cell y3 id
                    have hC1112 := hC11.tr hC12
                    have e1 : ∀ w', Chg (fun _ => False) w12 w' → Calls Try.prog 20 #[.pointer (some ⟨lb2, 0, none⟩), .int .i64 xa] w' (fun e w'' => e = .returned (.int .i64 DD) ∧ Chg (fun _ => False) w12 w'') := fun w' h => (d1 w' (hC1112.tr h)).mono (fun e w'' hh => ⟨hh.1, h.tr hh.2⟩)
                    have e2 : ∀ w', Chg (fun _ => False) w12 w' → Calls Try.prog 20 #[.pointer (some ⟨lb, 0, none⟩), .int .i64 xa] w' (fun e w'' => e = .returned (.int .i64 DD) ∧ Chg (fun _ => False) w12 w'') := fun w' h => (d2 w' (hC1112.tr h)).mono (fun e w'' hh => ⟨hh.1, h.tr hh.2⟩)
                    clear d1 d2
                    have KP : ∀ w', Chg (fun _ => False) w12 w' → (Chg (fun _ => False) w12 w' ∧ w'.cell? ⟨W.heap.size, 1, none⟩ = some (.int .i64 xa) ∧ w'.cell? ⟨W.heap.size, 3, none⟩ = some (.int .i64 xn) ∧ w'.cell? ⟨W.heap.size + 1, 3, none⟩ = some (.int .i64 yn)) := fun w' h => ⟨h, h.cell x1 id, h.cell x3 id, h.cell y3 id⟩
                    have HKP := Lib.hid KP
                    clear KP
                    go_wp2_with fail
                    refine wp_region_held_drew (S := fun w' => Chg (fun _ => False) w12 w' ∧ w'.cell? ⟨W.heap.size, 1, none⟩ = some (.int .i64 xa) ∧ w'.cell? ⟨W.heap.size, 3, none⟩ = some (.int .i64 xn) ∧ w'.cell? ⟨W.heap.size + 1, 3, none⟩ = some (.int .i64 yn)) (by kernel_rfl) (HKP.out _ ((Chg.refl _ _).drew)) (fun hHeld => ?_)
                    refine' wpAnyH_take (i := 0) (oi := _) (v := .bool true) ?hiab0 (by kernel_rfl) (by kernel_rfl) (by kernel_rfl) ?hqab0 (Or.inl ⟨?hwab0, fun w hSw => ?hyab0⟩) hHeld ?hkab0
                    case hiab0 => (simp only [List.getElem?_toArray, List.getElem?_cons_zero]; rfl)
                    case hqab0 => exact fun _ _ _ h => h
                    case hwab0 => rfl
                    case hyab0 => first | (go_simp; done) | (go_simp; with_reducible rfl)
                    simp only [Act.put, List.setIfInBounds_toArray, List.set_cons_zero, List.set_cons_succ]
                    refine' wpAnyH_take (i := 1) (oi := _) (v := .bool true) ?hiab1 (by kernel_rfl) (by kernel_rfl) (by kernel_rfl) ?hqab1 (Or.inl ⟨?hwab1, fun w hSw => ?hyab1⟩) hHeld ?hkab1
                    case hiab1 => (simp only [List.getElem?_toArray, List.getElem?_cons_succ, List.getElem?_cons_zero]; rfl)
                    case hqab1 => exact fun _ _ _ h => h
                    case hwab1 => rfl
                    case hyab1 => first | (go_simp; done) | (go_simp; with_reducible rfl)
                    simp only [Act.put, List.setIfInBounds_toArray, List.set_cons_zero, List.set_cons_succ]
                    refine' wpAnyH_take (i := 2) (oi := _) (v := .bool true) ?hiab2 (by kernel_rfl) (by kernel_rfl) (by kernel_rfl) ?hqab2 (Or.inl ⟨?hwab2, fun w hSw => ?hyab2⟩) hHeld ?hkab2
                    case hiab2 => (simp only [List.getElem?_toArray, List.getElem?_cons_succ, List.getElem?_cons_zero]; rfl)
                    case hqab2 => exact fun _ _ _ h => h
                    case hwab2 => rfl
                    case hyab2 => first | (go_simp; done) | (go_simp; with_reducible rfl)
                    simp only [Act.put, List.setIfInBounds_toArray, List.set_cons_zero, List.set_cons_succ]
                    refine' wpAnyH_take (i := 3) (oi := _) (v := .bool true) ?hiab3 (by kernel_rfl) (by kernel_rfl) (by kernel_rfl) ?hqab3 (Or.inl ⟨?hwab3, fun w hSw => ?hyab3⟩) hHeld ?hkab3
                    case hiab3 => (simp only [List.getElem?_toArray, List.getElem?_cons_succ, List.getElem?_cons_zero]; rfl)
                    case hqab3 => exact fun _ _ _ h => h
                    case hwab3 => rfl
                    case hyab3 => first | (go_simp; done) | (go_simp; with_reducible rfl)
                    simp only [Act.put, List.setIfInBounds_toArray, List.set_cons_zero, List.set_cons_succ]
                    refine' wpAnyH_take (i := 4) (oi := _) (v := .bool true) ?hiab4 (by kernel_rfl) (by kernel_rfl) (by kernel_rfl) ?hqab4 (Or.inl ⟨?hwab4, fun w hSw => ?hyab4⟩) hHeld ?hkab4
                    case hiab4 => (simp only [List.getElem?_toArray, List.getElem?_cons_succ, List.getElem?_cons_zero]; rfl)
                    case hqab4 => exact fun _ _ _ h => h
                    case hwab4 => rfl
                    case hyab4 => first | (go_simp; done) | (go_simp; with_reducible rfl)
                    simp only [Act.put, List.setIfInBounds_toArray, List.set_cons_zero, List.set_cons_succ]
                    refine' wpAnyH_take (i := 5) (oi := _) (v := .bool true) ?hiab5 (by kernel_rfl) (by kernel_rfl) (by kernel_rfl) ?hqab5 (Or.inl ⟨?hwab5, fun w hSw => ?hyab5⟩) hHeld ?hkab5
                    case hiab5 => (simp only [List.getElem?_toArray, List.getElem?_cons_succ, List.getElem?_cons_zero]; rfl)
                    case hqab5 => exact fun _ _ _ h => h
                    case hwab5 => rfl
                    case hyab5 => first | (go_simp; done) | (go_simp; with_reducible rfl)
                    simp only [Act.put, List.setIfInBounds_toArray, List.set_cons_zero, List.set_cons_succ]
                    refine' wpAnyH_take (i := 6) (oi := _) (v := .bool true) ?hiab6 (by kernel_rfl) (by kernel_rfl) (by kernel_rfl) ?hqab6 (Or.inl ⟨?hwab6, fun w hSw => ?hyab6⟩) hHeld ?hkab6
                    case hiab6 => (simp only [List.getElem?_toArray, List.getElem?_cons_succ, List.getElem?_cons_zero]; rfl)
                    case hqab6 => exact fun _ _ _ h => h
                    case hwab6 => rfl
                    case hyab6 => first | (go_simp; done) | (go_simp; with_reducible rfl)
                    simp only [Act.put, List.setIfInBounds_toArray, List.set_cons_zero, List.set_cons_succ]
                    refine' wpAnyH_take (i := 7) (oi := _) (v := .bool true) ?hiab7 (by kernel_rfl) (by kernel_rfl) (by kernel_rfl) ?hqab7 (Or.inl ⟨?hwab7, fun w hSw => ?hyab7⟩) hHeld ?hkab7
                    case hiab7 => (simp only [List.getElem?_toArray, List.getElem?_cons_succ, List.getElem?_cons_zero]; rfl)
                    case hqab7 => exact fun _ _ _ h => h
                    case hwab7 => rfl
                    case hyab7 => first | (go_simp; done) | (go_simp; with_reducible rfl)
                    simp only [Act.put, List.setIfInBounds_toArray, List.set_cons_zero, List.set_cons_succ]
                    refine' wpAnyH_take (i := 8) (oi := _) (v := .int .i64 yn) ?hiab8 (by kernel_rfl) (by kernel_rfl) (by kernel_rfl) ?hqab8 (Or.inl ⟨?hwab8, fun w hSw => ?hyab8⟩) hHeld ?hkab8
                    case hiab8 => (simp only [List.getElem?_toArray, List.getElem?_cons_succ, List.getElem?_cons_zero]; rfl)
                    case hqab8 => exact fun _ _ _ h => h
                    case hwab8 => rfl
                    case hyab8 => first | (go_simp; done) | (go_simp; with_reducible rfl)
                    simp only [Act.put, List.setIfInBounds_toArray, List.set_cons_zero, List.set_cons_succ]
                    refine' wpAnyH_take (i := 9) (oi := _) (v := .pointer (some ⟨W.heap.size + 1, 3, none⟩)) ?hiab9 (by kernel_rfl) (by kernel_rfl) (by kernel_rfl) ?hqab9 (Or.inl ⟨?hwab9, fun w hSw => ?hyab9⟩) hHeld ?hkab9
                    case hiab9 => (simp only [List.getElem?_toArray, List.getElem?_cons_succ, List.getElem?_cons_zero]; rfl)
                    case hqab9 => exact fun _ _ _ h => h
                    case hwab9 => rfl
                    case hyab9 => first | (go_simp; done) | (go_simp; with_reducible rfl)
                    simp only [Act.put, List.setIfInBounds_toArray, List.set_cons_zero, List.set_cons_succ]
                    refine' wpAnyH_take (i := 10) (oi := _) (v := .int .i64 yn) ?hiab10 (by kernel_rfl) (by kernel_rfl) (by kernel_rfl) ?hqab10 (Or.inl ⟨?hwab10, fun w hSw => ?hyab10⟩) hHeld ?hkab10
                    case hiab10 => (simp only [List.getElem?_toArray, List.getElem?_cons_succ, List.getElem?_cons_zero]; rfl)
                    case hqab10 => exact fun _ _ _ h => h
                    case hwab10 => rfl
                    case hyab10 => first | (go_simp; done) | (go_simp; with_reducible rfl)
                    simp only [Act.put, List.setIfInBounds_toArray, List.set_cons_zero, List.set_cons_succ]
                    refine' wpAnyH_take (i := 11) (oi := _) (v := .bool true) ?hiab11 (by kernel_rfl) (by kernel_rfl) (by kernel_rfl) ?hqab11 (Or.inl ⟨?hwab11, fun w hSw => ?hyab11⟩) hHeld ?hkab11
                    case hiab11 => (simp only [List.getElem?_toArray, List.getElem?_cons_succ, List.getElem?_cons_zero]; rfl)
                    case hqab11 => exact fun _ _ _ h => h
                    case hwab11 => rfl
                    case hyab11 => first | (go_simp; done) | (go_simp; with_reducible rfl)
                    simp only [Act.put, List.setIfInBounds_toArray, List.set_cons_zero, List.set_cons_succ]
                    refine' wpAnyH_take (i := 12) (oi := _) (v := .bool true) ?hiab12 (by kernel_rfl) (by kernel_rfl) (by kernel_rfl) ?hqab12 (Or.inl ⟨?hwab12, fun w hSw => ?hyab12⟩) hHeld ?hkab12
                    case hiab12 => (simp only [List.getElem?_toArray, List.getElem?_cons_succ, List.getElem?_cons_zero]; rfl)
                    case hqab12 => exact fun _ _ _ h => h
                    case hwab12 => rfl
                    case hyab12 => first | (go_simp; done) | (go_simp; with_reducible rfl)
                    simp only [Act.put, List.setIfInBounds_toArray, List.set_cons_zero, List.set_cons_succ]
                    refine' wpAnyH_take (i := 13) (oi := _) (v := .bool true) ?hiab13 (by kernel_rfl) (by kernel_rfl) (by kernel_rfl) ?hqab13 (Or.inl ⟨?hwab13, fun w hSw => ?hyab13⟩) hHeld ?hkab13
                    case hiab13 => (simp only [List.getElem?_toArray, List.getElem?_cons_succ, List.getElem?_cons_zero]; rfl)
                    case hqab13 => exact fun _ _ _ h => h
                    case hwab13 => rfl
                    case hyab13 => first | (go_simp; done) | (go_simp; with_reducible rfl)
                    simp only [Act.put, List.setIfInBounds_toArray, List.set_cons_zero, List.set_cons_succ]
                    refine' wpAnyH_take (i := 14) (oi := _) (v := .bool false) ?hiab14 (by kernel_rfl) (by kernel_rfl) (by kernel_rfl) ?hqab14 (Or.inl ⟨?hwab14, fun w hSw => ?hyab14⟩) hHeld ?hkab14
                    case hiab14 => (simp only [List.getElem?_toArray, List.getElem?_cons_succ, List.getElem?_cons_zero]; rfl)
                    case hqab14 => exact fun _ _ _ h => h
                    case hwab14 => rfl
                    case hyab14 => first | (go_simp; done) | (go_simp; with_reducible rfl)
                    simp only [Act.put, List.setIfInBounds_toArray, List.set_cons_zero, List.set_cons_succ]
                    refine' wpAnyH_take (i := 15) (oi := _) (v := .bool false) ?hiab15 (by kernel_rfl) (by kernel_rfl) (by kernel_rfl) ?hqab15 (Or.inl ⟨?hwab15, fun w hSw => ?hyab15⟩) hHeld ?hkab15
                    case hiab15 => (simp only [List.getElem?_toArray, List.getElem?_cons_succ, List.getElem?_cons_zero]; rfl)
                    case hqab15 => exact fun _ _ _ h => h
                    case hwab15 => rfl
                    case hyab15 => first | (go_simp; done) | (go_simp; with_reducible rfl)
                    simp only [Act.put, List.setIfInBounds_toArray, List.set_cons_zero, List.set_cons_succ]
                    refine' wpAnyH_take (i := 16) (oi := _) (v := undef) ?hiab16 (by kernel_rfl) (by kernel_rfl) (by kernel_rfl) ?hqab16 (Or.inr ⟨?hwab16, rfl⟩) hHeld ?hkab16
                    case hiab16 => (simp only [List.getElem?_toArray, List.getElem?_cons_succ, List.getElem?_cons_zero]; rfl)
                    case hqab16 => exact fun _ _ _ h => h
                    case hwab16 => rfl
                    simp only [Act.put, List.setIfInBounds_toArray, List.set_cons_zero, List.set_cons_succ]
                    refine' wpAnyH_take (i := 17) (oi := _) (v := undef) ?hiab17 (by kernel_rfl) (by kernel_rfl) (by kernel_rfl) ?hqab17 (Or.inr ⟨?hwab17, rfl⟩) hHeld ?hkab17
                    case hiab17 => (simp only [List.getElem?_toArray, List.getElem?_cons_succ, List.getElem?_cons_zero]; rfl)
                    case hqab17 => exact fun _ _ _ h => h
                    case hwab17 => rfl
                    simp only [Act.put, List.setIfInBounds_toArray, List.set_cons_zero, List.set_cons_succ]
                    refine' wpAnyH_take (i := 18) (oi := _) (v := undef) ?hiab18 (by kernel_rfl) (by kernel_rfl) (by kernel_rfl) ?hqab18 (Or.inr ⟨?hwab18, rfl⟩) hHeld ?hkab18
                    case hiab18 => (simp only [List.getElem?_toArray, List.getElem?_cons_succ, List.getElem?_cons_zero]; rfl)
                    case hqab18 => exact fun _ _ _ h => h
                    case hwab18 => rfl
                    simp only [Act.put, List.setIfInBounds_toArray, List.set_cons_zero, List.set_cons_succ]
                    refine' wpAnyH_take (i := 19) (oi := _) (v := undef) ?hiab19 (by kernel_rfl) (by kernel_rfl) (by kernel_rfl) ?hqab19 (Or.inr ⟨?hwab19, rfl⟩) hHeld ?hkab19
                    case hiab19 => (simp only [List.getElem?_toArray, List.getElem?_cons_succ, List.getElem?_cons_zero]; rfl)
                    case hqab19 => exact fun _ _ _ h => h
                    case hwab19 => rfl
                    simp only [Act.put, List.setIfInBounds_toArray, List.set_cons_zero, List.set_cons_succ]
                    refine' wpAnyH_take (i := 20) (oi := _) (v := .bool false) ?hiab20 (by kernel_rfl) (by kernel_rfl) (by kernel_rfl) ?hqab20 (Or.inl ⟨?hwab20, fun w hSw => ?hyab20⟩) hHeld ?hkab20
                    case hiab20 => (simp only [List.getElem?_toArray, List.getElem?_cons_succ, List.getElem?_cons_zero]; rfl)
                    case hqab20 => exact fun _ _ _ h => h
                    case hwab20 => rfl
                    case hyab20 => first | (go_simp; done) | (go_simp; with_reducible rfl)
                    simp only [Act.put, List.setIfInBounds_toArray, List.set_cons_zero, List.set_cons_succ]
                    refine' wpAnyH_take (i := 21) (oi := _) (v := .bool false) ?hiab21 (by kernel_rfl) (by kernel_rfl) (by kernel_rfl) ?hqab21 (Or.inl ⟨?hwab21, fun w hSw => ?hyab21⟩) hHeld ?hkab21
                    case hiab21 => (simp only [List.getElem?_toArray, List.getElem?_cons_succ, List.getElem?_cons_zero]; rfl)
                    case hqab21 => exact fun _ _ _ h => h
                    case hwab21 => rfl
                    case hyab21 => first | (go_simp; done) | (go_simp; with_reducible rfl)
                    simp only [Act.put, List.setIfInBounds_toArray, List.set_cons_zero, List.set_cons_succ]
                    refine' wpAnyH_take (i := 22) (oi := _) (v := .bool false) ?hiab22 (by kernel_rfl) (by kernel_rfl) (by kernel_rfl) ?hqab22 (Or.inl ⟨?hwab22, fun w hSw => ?hyab22⟩) hHeld ?hkab22
                    case hiab22 => (simp only [List.getElem?_toArray, List.getElem?_cons_succ, List.getElem?_cons_zero]; rfl)
                    case hqab22 => exact fun _ _ _ h => h
                    case hwab22 => rfl
                    case hyab22 => first | (go_simp; done) | (go_simp; with_reducible rfl)
                    simp only [Act.put, List.setIfInBounds_toArray, List.set_cons_zero, List.set_cons_succ]
                    refine' wpAnyH_take (i := 23) (oi := _) (v := .bool true) ?hiab23 (by kernel_rfl) (by kernel_rfl) (by kernel_rfl) ?hqab23 (Or.inl ⟨?hwab23, fun w hSw => ?hyab23⟩) hHeld ?hkab23
                    case hiab23 => (simp only [List.getElem?_toArray, List.getElem?_cons_succ, List.getElem?_cons_zero]; rfl)
                    case hqab23 => exact fun _ _ _ h => h
                    case hwab23 => rfl
                    case hyab23 => first | (go_simp; done) | (go_simp; with_reducible rfl)
                    simp only [Act.put, List.setIfInBounds_toArray, List.set_cons_zero, List.set_cons_succ]
                    refine' wpAnyH_take (i := 24) (oi := _) (v := .bool true) ?hiab24 (by kernel_rfl) (by kernel_rfl) (by kernel_rfl) ?hqab24 (Or.inl ⟨?hwab24, fun w hSw => ?hyab24⟩) hHeld ?hkab24
                    case hiab24 => (simp only [List.getElem?_toArray, List.getElem?_cons_succ, List.getElem?_cons_zero]; rfl)
                    case hqab24 => exact fun _ _ _ h => h
                    case hwab24 => rfl
                    case hyab24 => first | (go_simp; done) | (go_simp; with_reducible rfl)
                    simp only [Act.put, List.setIfInBounds_toArray, List.set_cons_zero, List.set_cons_succ]
                    refine' wpAnyH_take (i := 25) (oi := _) (v := .int .i64 xn) ?hiab25 (by kernel_rfl) (by kernel_rfl) (by kernel_rfl) ?hqab25 (Or.inl ⟨?hwab25, fun w hSw => ?hyab25⟩) hHeld ?hkab25
                    case hiab25 => (simp only [List.getElem?_toArray, List.getElem?_cons_succ, List.getElem?_cons_zero]; rfl)
                    case hqab25 => exact fun _ _ _ h => h
                    case hwab25 => rfl
                    case hyab25 => first | (go_simp; done) | (go_simp; with_reducible rfl)
                    simp only [Act.put, List.setIfInBounds_toArray, List.set_cons_zero, List.set_cons_succ]
                    refine' wpAnyH_take (i := 26) (oi := _) (v := .pointer (some ⟨W.heap.size, 3, none⟩)) ?hiab26 (by kernel_rfl) (by kernel_rfl) (by kernel_rfl) ?hqab26 (Or.inl ⟨?hwab26, fun w hSw => ?hyab26⟩) hHeld ?hkab26
                    case hiab26 => (simp only [List.getElem?_toArray, List.getElem?_cons_succ, List.getElem?_cons_zero]; rfl)
                    case hqab26 => exact fun _ _ _ h => h
                    case hwab26 => rfl
                    case hyab26 => first | (go_simp; done) | (go_simp; with_reducible rfl)
                    simp only [Act.put, List.setIfInBounds_toArray, List.set_cons_zero, List.set_cons_succ]
                    refine' wpAnyH_take (i := 27) (oi := _) (v := .int .i64 xn) ?hiab27 (by kernel_rfl) (by kernel_rfl) (by kernel_rfl) ?hqab27 (Or.inl ⟨?hwab27, fun w hSw => ?hyab27⟩) hHeld ?hkab27
                    case hiab27 => (simp only [List.getElem?_toArray, List.getElem?_cons_succ, List.getElem?_cons_zero]; rfl)
                    case hqab27 => exact fun _ _ _ h => h
                    case hwab27 => rfl
                    case hyab27 => first | (go_simp; done) | (go_simp; with_reducible rfl)
                    simp only [Act.put, List.setIfInBounds_toArray, List.set_cons_zero, List.set_cons_succ]
                    refine' wpAnyH_take (i := 28) (oi := _) (v := .bool true) ?hiab28 (by kernel_rfl) (by kernel_rfl) (by kernel_rfl) ?hqab28 (Or.inl ⟨?hwab28, fun w hSw => ?hyab28⟩) hHeld ?hkab28
                    case hiab28 => (simp only [List.getElem?_toArray, List.getElem?_cons_succ, List.getElem?_cons_zero]; rfl)
                    case hqab28 => exact fun _ _ _ h => h
                    case hwab28 => rfl
                    case hyab28 => first | (go_simp; done) | (go_simp; with_reducible rfl)
                    simp only [Act.put, List.setIfInBounds_toArray, List.set_cons_zero, List.set_cons_succ]
                    refine' wpAnyH_take (i := 29) (oi := _) (v := .bool true) ?hiab29 (by kernel_rfl) (by kernel_rfl) (by kernel_rfl) ?hqab29 (Or.inl ⟨?hwab29, fun w hSw => ?hyab29⟩) hHeld ?hkab29
                    case hiab29 => (simp only [List.getElem?_toArray, List.getElem?_cons_succ, List.getElem?_cons_zero]; rfl)
                    case hqab29 => exact fun _ _ _ h => h
                    case hwab29 => rfl
                    case hyab29 => first | (go_simp; done) | (go_simp; with_reducible rfl)
                    simp only [Act.put, List.setIfInBounds_toArray, List.set_cons_zero, List.set_cons_succ]
                    refine' wpAnyH_take (i := 30) (oi := _) (v := .bool true) ?hiab30 (by kernel_rfl) (by kernel_rfl) (by kernel_rfl) ?hqab30 (Or.inl ⟨?hwab30, fun w hSw => ?hyab30⟩) hHeld ?hkab30
                    case hiab30 => (simp only [List.getElem?_toArray, List.getElem?_cons_succ, List.getElem?_cons_zero]; rfl)
                    case hqab30 => exact fun _ _ _ h => h
                    case hwab30 => rfl
                    case hyab30 => first | (go_simp; done) | (go_simp; with_reducible rfl)
                    simp only [Act.put, List.setIfInBounds_toArray, List.set_cons_zero, List.set_cons_succ]
                    refine' wpAnyH_take (i := 31) (oi := _) (v := .bool true) ?hiab31 (by kernel_rfl) (by kernel_rfl) (by kernel_rfl) ?hqab31 (Or.inl ⟨?hwab31, fun w hSw => ?hyab31⟩) hHeld ?hkab31
                    case hiab31 => (simp only [List.getElem?_toArray, List.getElem?_cons_succ, List.getElem?_cons_zero]; rfl)
                    case hqab31 => exact fun _ _ _ h => h
                    case hwab31 => rfl
                    case hyab31 => first | (go_simp; done) | (go_simp; with_reducible rfl)
                    simp only [Act.put, List.setIfInBounds_toArray, List.set_cons_zero, List.set_cons_succ]
                    refine' wpAnyH_take (i := 32) (oi := _) (v := .bool true) ?hiab32 (by kernel_rfl) (by kernel_rfl) (by kernel_rfl) ?hqab32 (Or.inl ⟨?hwab32, fun w hSw => ?hyab32⟩) hHeld ?hkab32
                    case hiab32 => (simp only [List.getElem?_toArray, List.getElem?_cons_succ, List.getElem?_cons_zero]; rfl)
                    case hqab32 => exact fun _ _ _ h => h
                    case hwab32 => rfl
                    case hyab32 => first | (go_simp; done) | (go_simp; with_reducible rfl)
                    simp only [Act.put, List.setIfInBounds_toArray, List.set_cons_zero, List.set_cons_succ]
                    refine' wpAnyH_take (i := 33) (oi := _) (v := .pointer (some ⟨lb2, 0, none⟩)) ?hiab33 (by kernel_rfl) (by kernel_rfl) (by kernel_rfl) ?hqab33 (Or.inl ⟨?hwab33, fun w hSw => ?hyab33⟩) hHeld ?hkab33
                    case hiab33 => (simp only [List.getElem?_toArray, List.getElem?_cons_succ, List.getElem?_cons_zero]; rfl)
                    case hqab33 => exact fun _ _ _ h => h
                    case hwab33 => rfl
                    case hyab33 => first | (go_simp; done) | (go_simp; with_reducible rfl)
                    simp only [Act.put, List.setIfInBounds_toArray, List.set_cons_zero, List.set_cons_succ]
                    refine' wpAnyH_take (i := 34) (oi := _) (v := .pointer (some ⟨W.heap.size, 1, none⟩)) ?hiab34 (by kernel_rfl) (by kernel_rfl) (by kernel_rfl) ?hqab34 (Or.inl ⟨?hwab34, fun w hSw => ?hyab34⟩) hHeld ?hkab34
                    case hiab34 => (simp only [List.getElem?_toArray, List.getElem?_cons_succ, List.getElem?_cons_zero]; rfl)
                    case hqab34 => exact fun _ _ _ h => h
                    case hwab34 => rfl
                    case hyab34 => first | (go_simp; done) | (go_simp; with_reducible rfl)
                    simp only [Act.put, List.setIfInBounds_toArray, List.set_cons_zero, List.set_cons_succ]
                    refine' wpAnyH_take (i := 35) (oi := _) (v := .int .i64 xa) ?hiab35 (by kernel_rfl) (by kernel_rfl) (by kernel_rfl) ?hqab35 (Or.inl ⟨?hwab35, fun w hSw => ?hyab35⟩) hHeld ?hkab35
                    case hiab35 => (simp only [List.getElem?_toArray, List.getElem?_cons_succ, List.getElem?_cons_zero]; rfl)
                    case hqab35 => exact fun _ _ _ h => h
                    case hwab35 => rfl
                    case hyab35 => first | (go_simp; done) | (go_simp; with_reducible rfl)
                    simp only [Act.put, List.setIfInBounds_toArray, List.set_cons_zero, List.set_cons_succ]
                    refine' wpAnyH_take (i := 37) (oi := _) (v := .pointer (some ⟨lb, 0, none⟩)) ?hiab37 (by kernel_rfl) (by kernel_rfl) (by kernel_rfl) ?hqab37 (Or.inl ⟨?hwab37, fun w hSw => ?hyab37⟩) hHeld ?hkab37
                    case hiab37 => (simp only [List.getElem?_toArray, List.getElem?_cons_succ, List.getElem?_cons_zero]; rfl)
                    case hqab37 => exact fun _ _ _ h => h
                    case hwab37 => rfl
                    case hyab37 => first | (go_simp; done) | (go_simp; with_reducible rfl)
                    simp only [Act.put, List.setIfInBounds_toArray, List.set_cons_zero, List.set_cons_succ]
                    refine' wpAnyH_take (i := 38) (oi := _) (v := .pointer (some ⟨W.heap.size, 1, none⟩)) ?hiab38 (by kernel_rfl) (by kernel_rfl) (by kernel_rfl) ?hqab38 (Or.inl ⟨?hwab38, fun w hSw => ?hyab38⟩) hHeld ?hkab38
                    case hiab38 => (simp only [List.getElem?_toArray, List.getElem?_cons_succ, List.getElem?_cons_zero]; rfl)
                    case hqab38 => exact fun _ _ _ h => h
                    case hwab38 => rfl
                    case hyab38 => first | (go_simp; done) | (go_simp; with_reducible rfl)
                    simp only [Act.put, List.setIfInBounds_toArray, List.set_cons_zero, List.set_cons_succ]
                    refine' wpAnyH_take (i := 39) (oi := _) (v := .int .i64 xa) ?hiab39 (by kernel_rfl) (by kernel_rfl) (by kernel_rfl) ?hqab39 (Or.inl ⟨?hwab39, fun w hSw => ?hyab39⟩) hHeld ?hkab39
                    case hiab39 => (simp only [List.getElem?_toArray, List.getElem?_cons_succ, List.getElem?_cons_zero]; rfl)
                    case hqab39 => exact fun _ _ _ h => h
                    case hwab39 => rfl
                    case hyab39 => first | (go_simp; done) | (go_simp; with_reducible rfl)
                    simp only [Act.put, List.setIfInBounds_toArray, List.set_cons_zero, List.set_cons_succ]
                    refine wpAnyH_ready (rs := [36]) (by kernel_rfl) (by simp) ?_
                    refine AllReadyH.cons rfl (fun K hK => ?_) AllReadyH.nil
                    go_simp
                    go_at_call 20
                    refine (e1 _ ((Chg.refl _ _).drew)).mono ?_
                    rintro e w13 ⟨rfl, hC13⟩
                    refine hK.out _ _ (HKP.out _ hC13) (fun hHeld => ?_)
                    clear hK K
                    refine wpAnyH_ready (rs := [40]) (by kernel_rfl) (by simp) ?_
                    refine AllReadyH.cons rfl (fun K hK => ?_) AllReadyH.nil
                    go_simp
                    go_at_call 20
                    refine (e2 _ hC13).mono ?_
                    rintro e w14 ⟨rfl, hC14⟩
                    refine hK.out _ _ (HKP.out _ hC14) (fun hHeld => ?_)
                    clear hK K
                    refine' wpAnyH_take (i := 41) (oi := _) (v := .bool true) ?hiab41 (by kernel_rfl) (by kernel_rfl) (by kernel_rfl) ?hqab41 (Or.inl ⟨?hwab41, fun w hSw => ?hyab41⟩) hHeld ?hkab41
                    case hiab41 => (simp only [List.getElem?_toArray, List.getElem?_cons_succ, List.getElem?_cons_zero]; rfl)
                    case hqab41 => exact fun _ _ _ h => h
                    case hwab41 => rfl
                    case hyab41 => first | (go_simp; done) | (go_simp; with_reducible rfl)
                    simp only [Act.put, List.setIfInBounds_toArray, List.set_cons_zero, List.set_cons_succ]
                    refine' wpAnyH_take (i := 42) (oi := _) (v := .bool true) ?hiab42 (by kernel_rfl) (by kernel_rfl) (by kernel_rfl) ?hqab42 (Or.inl ⟨?hwab42, fun w hSw => ?hyab42⟩) hHeld ?hkab42
                    case hiab42 => (simp only [List.getElem?_toArray, List.getElem?_cons_succ, List.getElem?_cons_zero]; rfl)
                    case hqab42 => exact fun _ _ _ h => h
                    case hwab42 => rfl
                    case hyab42 => first | (go_simp; done) | (go_simp; with_reducible rfl)
                    simp only [Act.put, List.setIfInBounds_toArray, List.set_cons_zero, List.set_cons_succ]
                    refine' wpAnyH_take (i := 43) (oi := _) (v := .bool true) ?hiab43 (by kernel_rfl) (by kernel_rfl) (by kernel_rfl) ?hqab43 (Or.inl ⟨?hwab43, fun w hSw => ?hyab43⟩) hHeld ?hkab43
                    case hiab43 => (simp only [List.getElem?_toArray, List.getElem?_cons_succ, List.getElem?_cons_zero]; rfl)
                    case hqab43 => exact fun _ _ _ h => h
                    case hwab43 => rfl
                    case hyab43 => first | (go_simp; done) | (go_simp; with_reducible rfl)
                    simp only [Act.put, List.setIfInBounds_toArray, List.set_cons_zero, List.set_cons_succ]
                    refine wpAnyH_done (by kernel_rfl) ?_ _
                    go_wp2
                    go_ret
                    exact ⟨rfl, (hCF.tr hC1112).tr hC14⟩
                  · have hs3 : (xa == ya) = false := beq_eq_false_iff_ne.2 hs2
                    clear hs hs2
                    have bq1 : (yn == yn) = true := beq_self_eq_true yn
                    have bq2 : (xn == xn) = true := beq_self_eq_true xn
                    have bq3 : (DD == DD) = true := beq_self_eq_true DD
                    go_wp2_with fail
                    refine r1.mono ?_
                    clear r1
                    rintro e w11 ⟨rfl, hC11⟩
                    replace x0 := hC11.cell x0 id
                    replace x1 := hC11.cell x1 id
                    replace x2 := hC11.cell x2 id
                    replace x3 := hC11.cell x3 id
                    replace y0 := hC11.cell y0 id
                    replace y1 := hC11.cell y1 id
                    replace y2 := hC11.cell y2 id
                    replace y3 := hC11.cell y3 id
                    go_wp2_with fail
                    refine (r2 _ hC11).mono ?_
                    clear r2
                    rintro e w12 ⟨rfl, hC12⟩
                    replace x0 := hC12.cell x0 id
                    replace x1 := hC12.cell x1 id
                    replace x2 := hC12.cell x2 id
                    replace x3 := hC12.cell x3 id
                    replace y0 := hC12.cell y0 id
                    replace y1 := hC12.cell y1 id
                    replace y2 := hC12.cell y2 id
                    replace y3 := hC12.cell y3 id
                    have hC1112 := hC11.tr hC12
                    have e1 : ∀ w', Chg (fun _ => False) w12 w' → Calls Try.prog 20 #[.pointer (some ⟨lb2, 0, none⟩), .int .i64 xa] w' (fun e w'' => e = .returned (.int .i64 DD) ∧ Chg (fun _ => False) w12 w'') := fun w' h => (d1 w' (hC1112.tr h)).mono (fun e w'' hh => ⟨hh.1, h.tr hh.2⟩)
                    have e2 : ∀ w', Chg (fun _ => False) w12 w' → Calls Try.prog 20 #[.pointer (some ⟨lb, 0, none⟩), .int .i64 xa] w' (fun e w'' => e = .returned (.int .i64 DD) ∧ Chg (fun _ => False) w12 w'') := fun w' h => (d2 w' (hC1112.tr h)).mono (fun e w'' hh => ⟨hh.1, h.tr hh.2⟩)
                    clear d1 d2
                    have KP : ∀ w', Chg (fun _ => False) w12 w' → (Chg (fun _ => False) w12 w' ∧ w'.cell? ⟨W.heap.size, 1, none⟩ = some (.int .i64 xa) ∧ w'.cell? ⟨W.heap.size, 3, none⟩ = some (.int .i64 xn) ∧ w'.cell? ⟨W.heap.size + 1, 3, none⟩ = some (.int .i64 yn)) := fun w' h => ⟨h, h.cell x1 id, h.cell x3 id, h.cell y3 id⟩
                    have HKP := Lib.hid KP
                    clear KP
                    go_wp2_with fail
                    refine wp_region_held_drew (S := fun w' => Chg (fun _ => False) w12 w' ∧ w'.cell? ⟨W.heap.size, 1, none⟩ = some (.int .i64 xa) ∧ w'.cell? ⟨W.heap.size, 3, none⟩ = some (.int .i64 xn) ∧ w'.cell? ⟨W.heap.size + 1, 3, none⟩ = some (.int .i64 yn)) (by kernel_rfl) (HKP.out _ ((Chg.refl _ _).drew)) (fun hHeld => ?_)
                    refine' wpAnyH_take (i := 0) (oi := _) (v := .bool true) ?hiac0 (by kernel_rfl) (by kernel_rfl) (by kernel_rfl) ?hqac0 (Or.inl ⟨?hwac0, fun w hSw => ?hyac0⟩) hHeld ?hkac0
                    case hiac0 => (simp only [List.getElem?_toArray, List.getElem?_cons_zero]; rfl)
                    case hqac0 => exact fun _ _ _ h => h
                    case hwac0 => rfl
                    case hyac0 => first | (go_simp; done) | (go_simp; with_reducible rfl)
                    simp only [Act.put, List.setIfInBounds_toArray, List.set_cons_zero, List.set_cons_succ]
                    refine' wpAnyH_take (i := 1) (oi := _) (v := .bool true) ?hiac1 (by kernel_rfl) (by kernel_rfl) (by kernel_rfl) ?hqac1 (Or.inl ⟨?hwac1, fun w hSw => ?hyac1⟩) hHeld ?hkac1
                    case hiac1 => (simp only [List.getElem?_toArray, List.getElem?_cons_succ, List.getElem?_cons_zero]; rfl)
                    case hqac1 => exact fun _ _ _ h => h
                    case hwac1 => rfl
                    case hyac1 => first | (go_simp; done) | (go_simp; with_reducible rfl)
                    simp only [Act.put, List.setIfInBounds_toArray, List.set_cons_zero, List.set_cons_succ]
                    refine' wpAnyH_take (i := 2) (oi := _) (v := .bool true) ?hiac2 (by kernel_rfl) (by kernel_rfl) (by kernel_rfl) ?hqac2 (Or.inl ⟨?hwac2, fun w hSw => ?hyac2⟩) hHeld ?hkac2
                    case hiac2 => (simp only [List.getElem?_toArray, List.getElem?_cons_succ, List.getElem?_cons_zero]; rfl)
                    case hqac2 => exact fun _ _ _ h => h
                    case hwac2 => rfl
                    case hyac2 => first | (go_simp; done) | (go_simp; with_reducible rfl)
                    simp only [Act.put, List.setIfInBounds_toArray, List.set_cons_zero, List.set_cons_succ]
                    refine' wpAnyH_take (i := 3) (oi := _) (v := .bool true) ?hiac3 (by kernel_rfl) (by kernel_rfl) (by kernel_rfl) ?hqac3 (Or.inl ⟨?hwac3, fun w hSw => ?hyac3⟩) hHeld ?hkac3
                    case hiac3 => (simp only [List.getElem?_toArray, List.getElem?_cons_succ, List.getElem?_cons_zero]; rfl)
                    case hqac3 => exact fun _ _ _ h => h
                    case hwac3 => rfl
                    case hyac3 => first | (go_simp; done) | (go_simp; with_reducible rfl)
                    simp only [Act.put, List.setIfInBounds_toArray, List.set_cons_zero, List.set_cons_succ]
                    refine' wpAnyH_take (i := 4) (oi := _) (v := .bool true) ?hiac4 (by kernel_rfl) (by kernel_rfl) (by kernel_rfl) ?hqac4 (Or.inl ⟨?hwac4, fun w hSw => ?hyac4⟩) hHeld ?hkac4
                    case hiac4 => (simp only [List.getElem?_toArray, List.getElem?_cons_succ, List.getElem?_cons_zero]; rfl)
                    case hqac4 => exact fun _ _ _ h => h
                    case hwac4 => rfl
                    case hyac4 => first | (go_simp; done) | (go_simp; with_reducible rfl)
                    simp only [Act.put, List.setIfInBounds_toArray, List.set_cons_zero, List.set_cons_succ]
                    refine' wpAnyH_take (i := 5) (oi := _) (v := .bool true) ?hiac5 (by kernel_rfl) (by kernel_rfl) (by kernel_rfl) ?hqac5 (Or.inl ⟨?hwac5, fun w hSw => ?hyac5⟩) hHeld ?hkac5
                    case hiac5 => (simp only [List.getElem?_toArray, List.getElem?_cons_succ, List.getElem?_cons_zero]; rfl)
                    case hqac5 => exact fun _ _ _ h => h
                    case hwac5 => rfl
                    case hyac5 => first | (go_simp; done) | (go_simp; with_reducible rfl)
                    simp only [Act.put, List.setIfInBounds_toArray, List.set_cons_zero, List.set_cons_succ]
                    refine' wpAnyH_take (i := 6) (oi := _) (v := .bool true) ?hiac6 (by kernel_rfl) (by kernel_rfl) (by kernel_rfl) ?hqac6 (Or.inl ⟨?hwac6, fun w hSw => ?hyac6⟩) hHeld ?hkac6
                    case hiac6 => (simp only [List.getElem?_toArray, List.getElem?_cons_succ, List.getElem?_cons_zero]; rfl)
                    case hqac6 => exact fun _ _ _ h => h
                    case hwac6 => rfl
                    case hyac6 => first | (go_simp; done) | (go_simp; with_reducible rfl)
                    simp only [Act.put, List.setIfInBounds_toArray, List.set_cons_zero, List.set_cons_succ]
                    refine' wpAnyH_take (i := 7) (oi := _) (v := .bool true) ?hiac7 (by kernel_rfl) (by kernel_rfl) (by kernel_rfl) ?hqac7 (Or.inl ⟨?hwac7, fun w hSw => ?hyac7⟩) hHeld ?hkac7
                    case hiac7 => (simp only [List.getElem?_toArray, List.getElem?_cons_succ, List.getElem?_cons_zero]; rfl)
                    case hqac7 => exact fun _ _ _ h => h
                    case hwac7 => rfl
                    case hyac7 => first | (go_simp; done) | (go_simp; with_reducible rfl)
                    simp only [Act.put, List.setIfInBounds_toArray, List.set_cons_zero, List.set_cons_succ]
                    refine' wpAnyH_take (i := 8) (oi := _) (v := .int .i64 yn) ?hiac8 (by kernel_rfl) (by kernel_rfl) (by kernel_rfl) ?hqac8 (Or.inl ⟨?hwac8, fun w hSw => ?hyac8⟩) hHeld ?hkac8
                    case hiac8 => (simp only [List.getElem?_toArray, List.getElem?_cons_succ, List.getElem?_cons_zero]; rfl)
                    case hqac8 => exact fun _ _ _ h => h
                    case hwac8 => rfl
                    case hyac8 => first | (go_simp; done) | (go_simp; with_reducible rfl)
                    simp only [Act.put, List.setIfInBounds_toArray, List.set_cons_zero, List.set_cons_succ]
                    refine' wpAnyH_take (i := 9) (oi := _) (v := .pointer (some ⟨W.heap.size + 1, 3, none⟩)) ?hiac9 (by kernel_rfl) (by kernel_rfl) (by kernel_rfl) ?hqac9 (Or.inl ⟨?hwac9, fun w hSw => ?hyac9⟩) hHeld ?hkac9
                    case hiac9 => (simp only [List.getElem?_toArray, List.getElem?_cons_succ, List.getElem?_cons_zero]; rfl)
                    case hqac9 => exact fun _ _ _ h => h
                    case hwac9 => rfl
                    case hyac9 => first | (go_simp; done) | (go_simp; with_reducible rfl)
                    simp only [Act.put, List.setIfInBounds_toArray, List.set_cons_zero, List.set_cons_succ]
                    refine' wpAnyH_take (i := 10) (oi := _) (v := .int .i64 yn) ?hiac10 (by kernel_rfl) (by kernel_rfl) (by kernel_rfl) ?hqac10 (Or.inl ⟨?hwac10, fun w hSw => ?hyac10⟩) hHeld ?hkac10
                    case hiac10 => (simp only [List.getElem?_toArray, List.getElem?_cons_succ, List.getElem?_cons_zero]; rfl)
                    case hqac10 => exact fun _ _ _ h => h
                    case hwac10 => rfl
                    case hyac10 => first | (go_simp; done) | (go_simp; with_reducible rfl)
                    simp only [Act.put, List.setIfInBounds_toArray, List.set_cons_zero, List.set_cons_succ]
                    refine' wpAnyH_take (i := 11) (oi := _) (v := .bool true) ?hiac11 (by kernel_rfl) (by kernel_rfl) (by kernel_rfl) ?hqac11 (Or.inl ⟨?hwac11, fun w hSw => ?hyac11⟩) hHeld ?hkac11
                    case hiac11 => (simp only [List.getElem?_toArray, List.getElem?_cons_succ, List.getElem?_cons_zero]; rfl)
                    case hqac11 => exact fun _ _ _ h => h
                    case hwac11 => rfl
                    case hyac11 => first | (go_simp; done) | (go_simp; with_reducible rfl)
                    simp only [Act.put, List.setIfInBounds_toArray, List.set_cons_zero, List.set_cons_succ]
                    refine' wpAnyH_take (i := 12) (oi := _) (v := .bool true) ?hiac12 (by kernel_rfl) (by kernel_rfl) (by kernel_rfl) ?hqac12 (Or.inl ⟨?hwac12, fun w hSw => ?hyac12⟩) hHeld ?hkac12
                    case hiac12 => (simp only [List.getElem?_toArray, List.getElem?_cons_succ, List.getElem?_cons_zero]; rfl)
                    case hqac12 => exact fun _ _ _ h => h
                    case hwac12 => rfl
                    case hyac12 => first | (go_simp; done) | (go_simp; with_reducible rfl)
                    simp only [Act.put, List.setIfInBounds_toArray, List.set_cons_zero, List.set_cons_succ]
                    refine' wpAnyH_take (i := 13) (oi := _) (v := .bool true) ?hiac13 (by kernel_rfl) (by kernel_rfl) (by kernel_rfl) ?hqac13 (Or.inl ⟨?hwac13, fun w hSw => ?hyac13⟩) hHeld ?hkac13
                    case hiac13 => (simp only [List.getElem?_toArray, List.getElem?_cons_succ, List.getElem?_cons_zero]; rfl)
                    case hqac13 => exact fun _ _ _ h => h
                    case hwac13 => rfl
                    case hyac13 => first | (go_simp; done) | (go_simp; with_reducible rfl)
                    simp only [Act.put, List.setIfInBounds_toArray, List.set_cons_zero, List.set_cons_succ]
                    refine' wpAnyH_take (i := 14) (oi := _) (v := .bool false) ?hiac14 (by kernel_rfl) (by kernel_rfl) (by kernel_rfl) ?hqac14 (Or.inl ⟨?hwac14, fun w hSw => ?hyac14⟩) hHeld ?hkac14
                    case hiac14 => (simp only [List.getElem?_toArray, List.getElem?_cons_succ, List.getElem?_cons_zero]; rfl)
                    case hqac14 => exact fun _ _ _ h => h
                    case hwac14 => rfl
                    case hyac14 => first | (go_simp; done) | (go_simp; with_reducible rfl)
                    simp only [Act.put, List.setIfInBounds_toArray, List.set_cons_zero, List.set_cons_succ]
                    refine' wpAnyH_take (i := 15) (oi := _) (v := .bool false) ?hiac15 (by kernel_rfl) (by kernel_rfl) (by kernel_rfl) ?hqac15 (Or.inl ⟨?hwac15, fun w hSw => ?hyac15⟩) hHeld ?hkac15
                    case hiac15 => (simp only [List.getElem?_toArray, List.getElem?_cons_succ, List.getElem?_cons_zero]; rfl)
                    case hqac15 => exact fun _ _ _ h => h
                    case hwac15 => rfl
                    case hyac15 => first | (go_simp; done) | (go_simp; with_reducible rfl)
                    simp only [Act.put, List.setIfInBounds_toArray, List.set_cons_zero, List.set_cons_succ]
                    refine' wpAnyH_take (i := 16) (oi := _) (v := undef) ?hiac16 (by kernel_rfl) (by kernel_rfl) (by kernel_rfl) ?hqac16 (Or.inr ⟨?hwac16, rfl⟩) hHeld ?hkac16
                    case hiac16 => (simp only [List.getElem?_toArray, List.getElem?_cons_succ, List.getElem?_cons_zero]; rfl)
                    case hqac16 => exact fun _ _ _ h => h
                    case hwac16 => rfl
                    simp only [Act.put, List.setIfInBounds_toArray, List.set_cons_zero, List.set_cons_succ]
                    refine' wpAnyH_take (i := 17) (oi := _) (v := undef) ?hiac17 (by kernel_rfl) (by kernel_rfl) (by kernel_rfl) ?hqac17 (Or.inr ⟨?hwac17, rfl⟩) hHeld ?hkac17
                    case hiac17 => (simp only [List.getElem?_toArray, List.getElem?_cons_succ, List.getElem?_cons_zero]; rfl)
                    case hqac17 => exact fun _ _ _ h => h
                    case hwac17 => rfl
                    simp only [Act.put, List.setIfInBounds_toArray, List.set_cons_zero, List.set_cons_succ]
                    refine' wpAnyH_take (i := 18) (oi := _) (v := undef) ?hiac18 (by kernel_rfl) (by kernel_rfl) (by kernel_rfl) ?hqac18 (Or.inr ⟨?hwac18, rfl⟩) hHeld ?hkac18
                    case hiac18 => (simp only [List.getElem?_toArray, List.getElem?_cons_succ, List.getElem?_cons_zero]; rfl)
                    case hqac18 => exact fun _ _ _ h => h
                    case hwac18 => rfl
                    simp only [Act.put, List.setIfInBounds_toArray, List.set_cons_zero, List.set_cons_succ]
                    refine' wpAnyH_take (i := 19) (oi := _) (v := undef) ?hiac19 (by kernel_rfl) (by kernel_rfl) (by kernel_rfl) ?hqac19 (Or.inr ⟨?hwac19, rfl⟩) hHeld ?hkac19
                    case hiac19 => (simp only [List.getElem?_toArray, List.getElem?_cons_succ, List.getElem?_cons_zero]; rfl)
                    case hqac19 => exact fun _ _ _ h => h
                    case hwac19 => rfl
                    simp only [Act.put, List.setIfInBounds_toArray, List.set_cons_zero, List.set_cons_succ]
                    refine' wpAnyH_take (i := 20) (oi := _) (v := .bool false) ?hiac20 (by kernel_rfl) (by kernel_rfl) (by kernel_rfl) ?hqac20 (Or.inl ⟨?hwac20, fun w hSw => ?hyac20⟩) hHeld ?hkac20
                    case hiac20 => (simp only [List.getElem?_toArray, List.getElem?_cons_succ, List.getElem?_cons_zero]; rfl)
                    case hqac20 => exact fun _ _ _ h => h
                    case hwac20 => rfl
                    case hyac20 => first | (go_simp; done) | (go_simp; with_reducible rfl)
                    simp only [Act.put, List.setIfInBounds_toArray, List.set_cons_zero, List.set_cons_succ]
                    refine' wpAnyH_take (i := 21) (oi := _) (v := .bool false) ?hiac21 (by kernel_rfl) (by kernel_rfl) (by kernel_rfl) ?hqac21 (Or.inl ⟨?hwac21, fun w hSw => ?hyac21⟩) hHeld ?hkac21
                    case hiac21 => (simp only [List.getElem?_toArray, List.getElem?_cons_succ, List.getElem?_cons_zero]; rfl)
                    case hqac21 => exact fun _ _ _ h => h
                    case hwac21 => rfl
                    case hyac21 => first | (go_simp; done) | (go_simp; with_reducible rfl)
                    simp only [Act.put, List.setIfInBounds_toArray, List.set_cons_zero, List.set_cons_succ]
                    refine' wpAnyH_take (i := 22) (oi := _) (v := .bool false) ?hiac22 (by kernel_rfl) (by kernel_rfl) (by kernel_rfl) ?hqac22 (Or.inl ⟨?hwac22, fun w hSw => ?hyac22⟩) hHeld ?hkac22
                    case hiac22 => (simp only [List.getElem?_toArray, List.getElem?_cons_succ, List.getElem?_cons_zero]; rfl)
                    case hqac22 => exact fun _ _ _ h => h
                    case hwac22 => rfl
                    case hyac22 => first | (go_simp; done) | (go_simp; with_reducible rfl)
                    simp only [Act.put, List.setIfInBounds_toArray, List.set_cons_zero, List.set_cons_succ]
                    refine' wpAnyH_take (i := 23) (oi := _) (v := .bool true) ?hiac23 (by kernel_rfl) (by kernel_rfl) (by kernel_rfl) ?hqac23 (Or.inl ⟨?hwac23, fun w hSw => ?hyac23⟩) hHeld ?hkac23
                    case hiac23 => (simp only [List.getElem?_toArray, List.getElem?_cons_succ, List.getElem?_cons_zero]; rfl)
                    case hqac23 => exact fun _ _ _ h => h
                    case hwac23 => rfl
                    case hyac23 => first | (go_simp; done) | (go_simp; with_reducible rfl)
                    simp only [Act.put, List.setIfInBounds_toArray, List.set_cons_zero, List.set_cons_succ]
                    refine' wpAnyH_take (i := 24) (oi := _) (v := .bool true) ?hiac24 (by kernel_rfl) (by kernel_rfl) (by kernel_rfl) ?hqac24 (Or.inl ⟨?hwac24, fun w hSw => ?hyac24⟩) hHeld ?hkac24
                    case hiac24 => (simp only [List.getElem?_toArray, List.getElem?_cons_succ, List.getElem?_cons_zero]; rfl)
                    case hqac24 => exact fun _ _ _ h => h
                    case hwac24 => rfl
                    case hyac24 => first | (go_simp; done) | (go_simp; with_reducible rfl)
                    simp only [Act.put, List.setIfInBounds_toArray, List.set_cons_zero, List.set_cons_succ]
                    refine' wpAnyH_take (i := 25) (oi := _) (v := .int .i64 xn) ?hiac25 (by kernel_rfl) (by kernel_rfl) (by kernel_rfl) ?hqac25 (Or.inl ⟨?hwac25, fun w hSw => ?hyac25⟩) hHeld ?hkac25
                    case hiac25 => (simp only [List.getElem?_toArray, List.getElem?_cons_succ, List.getElem?_cons_zero]; rfl)
                    case hqac25 => exact fun _ _ _ h => h
                    case hwac25 => rfl
                    case hyac25 => first | (go_simp; done) | (go_simp; with_reducible rfl)
                    simp only [Act.put, List.setIfInBounds_toArray, List.set_cons_zero, List.set_cons_succ]
                    refine' wpAnyH_take (i := 26) (oi := _) (v := .pointer (some ⟨W.heap.size, 3, none⟩)) ?hiac26 (by kernel_rfl) (by kernel_rfl) (by kernel_rfl) ?hqac26 (Or.inl ⟨?hwac26, fun w hSw => ?hyac26⟩) hHeld ?hkac26
                    case hiac26 => (simp only [List.getElem?_toArray, List.getElem?_cons_succ, List.getElem?_cons_zero]; rfl)
                    case hqac26 => exact fun _ _ _ h => h
                    case hwac26 => rfl
                    case hyac26 => first | (go_simp; done) | (go_simp; with_reducible rfl)
                    simp only [Act.put, List.setIfInBounds_toArray, List.set_cons_zero, List.set_cons_succ]
                    refine' wpAnyH_take (i := 27) (oi := _) (v := .int .i64 xn) ?hiac27 (by kernel_rfl) (by kernel_rfl) (by kernel_rfl) ?hqac27 (Or.inl ⟨?hwac27, fun w hSw => ?hyac27⟩) hHeld ?hkac27
                    case hiac27 => (simp only [List.getElem?_toArray, List.getElem?_cons_succ, List.getElem?_cons_zero]; rfl)
                    case hqac27 => exact fun _ _ _ h => h
                    case hwac27 => rfl
                    case hyac27 => first | (go_simp; done) | (go_simp; with_reducible rfl)
                    simp only [Act.put, List.setIfInBounds_toArray, List.set_cons_zero, List.set_cons_succ]
                    refine' wpAnyH_take (i := 28) (oi := _) (v := .bool true) ?hiac28 (by kernel_rfl) (by kernel_rfl) (by kernel_rfl) ?hqac28 (Or.inl ⟨?hwac28, fun w hSw => ?hyac28⟩) hHeld ?hkac28
                    case hiac28 => (simp only [List.getElem?_toArray, List.getElem?_cons_succ, List.getElem?_cons_zero]; rfl)
                    case hqac28 => exact fun _ _ _ h => h
                    case hwac28 => rfl
                    case hyac28 => first | (go_simp; done) | (go_simp; with_reducible rfl)
                    simp only [Act.put, List.setIfInBounds_toArray, List.set_cons_zero, List.set_cons_succ]
                    refine' wpAnyH_take (i := 29) (oi := _) (v := .bool true) ?hiac29 (by kernel_rfl) (by kernel_rfl) (by kernel_rfl) ?hqac29 (Or.inl ⟨?hwac29, fun w hSw => ?hyac29⟩) hHeld ?hkac29
                    case hiac29 => (simp only [List.getElem?_toArray, List.getElem?_cons_succ, List.getElem?_cons_zero]; rfl)
                    case hqac29 => exact fun _ _ _ h => h
                    case hwac29 => rfl
                    case hyac29 => first | (go_simp; done) | (go_simp; with_reducible rfl)
                    simp only [Act.put, List.setIfInBounds_toArray, List.set_cons_zero, List.set_cons_succ]
                    refine' wpAnyH_take (i := 30) (oi := _) (v := .bool true) ?hiac30 (by kernel_rfl) (by kernel_rfl) (by kernel_rfl) ?hqac30 (Or.inl ⟨?hwac30, fun w hSw => ?hyac30⟩) hHeld ?hkac30
                    case hiac30 => (simp only [List.getElem?_toArray, List.getElem?_cons_succ, List.getElem?_cons_zero]; rfl)
                    case hqac30 => exact fun _ _ _ h => h
                    case hwac30 => rfl
                    case hyac30 => first | (go_simp; done) | (go_simp; with_reducible rfl)
                    simp only [Act.put, List.setIfInBounds_toArray, List.set_cons_zero, List.set_cons_succ]
                    refine' wpAnyH_take (i := 31) (oi := _) (v := .bool true) ?hiac31 (by kernel_rfl) (by kernel_rfl) (by kernel_rfl) ?hqac31 (Or.inl ⟨?hwac31, fun w hSw => ?hyac31⟩) hHeld ?hkac31
                    case hiac31 => (simp only [List.getElem?_toArray, List.getElem?_cons_succ, List.getElem?_cons_zero]; rfl)
                    case hqac31 => exact fun _ _ _ h => h
                    case hwac31 => rfl
                    case hyac31 => first | (go_simp; done) | (go_simp; with_reducible rfl)
                    simp only [Act.put, List.setIfInBounds_toArray, List.set_cons_zero, List.set_cons_succ]
                    refine' wpAnyH_take (i := 32) (oi := _) (v := .bool true) ?hiac32 (by kernel_rfl) (by kernel_rfl) (by kernel_rfl) ?hqac32 (Or.inl ⟨?hwac32, fun w hSw => ?hyac32⟩) hHeld ?hkac32
                    case hiac32 => (simp only [List.getElem?_toArray, List.getElem?_cons_succ, List.getElem?_cons_zero]; rfl)
                    case hqac32 => exact fun _ _ _ h => h
                    case hwac32 => rfl
                    case hyac32 => first | (go_simp; done) | (go_simp; with_reducible rfl)
                    simp only [Act.put, List.setIfInBounds_toArray, List.set_cons_zero, List.set_cons_succ]
                    refine' wpAnyH_take (i := 33) (oi := _) (v := .pointer (some ⟨lb2, 0, none⟩)) ?hiac33 (by kernel_rfl) (by kernel_rfl) (by kernel_rfl) ?hqac33 (Or.inl ⟨?hwac33, fun w hSw => ?hyac33⟩) hHeld ?hkac33
                    case hiac33 => (simp only [List.getElem?_toArray, List.getElem?_cons_succ, List.getElem?_cons_zero]; rfl)
                    case hqac33 => exact fun _ _ _ h => h
                    case hwac33 => rfl
                    case hyac33 => first | (go_simp; done) | (go_simp; with_reducible rfl)
                    simp only [Act.put, List.setIfInBounds_toArray, List.set_cons_zero, List.set_cons_succ]
                    refine' wpAnyH_take (i := 34) (oi := _) (v := .pointer (some ⟨W.heap.size, 1, none⟩)) ?hiac34 (by kernel_rfl) (by kernel_rfl) (by kernel_rfl) ?hqac34 (Or.inl ⟨?hwac34, fun w hSw => ?hyac34⟩) hHeld ?hkac34
                    case hiac34 => (simp only [List.getElem?_toArray, List.getElem?_cons_succ, List.getElem?_cons_zero]; rfl)
                    case hqac34 => exact fun _ _ _ h => h
                    case hwac34 => rfl
                    case hyac34 => first | (go_simp; done) | (go_simp; with_reducible rfl)
                    simp only [Act.put, List.setIfInBounds_toArray, List.set_cons_zero, List.set_cons_succ]
                    refine' wpAnyH_take (i := 35) (oi := _) (v := .int .i64 xa) ?hiac35 (by kernel_rfl) (by kernel_rfl) (by kernel_rfl) ?hqac35 (Or.inl ⟨?hwac35, fun w hSw => ?hyac35⟩) hHeld ?hkac35
                    case hiac35 => (simp only [List.getElem?_toArray, List.getElem?_cons_succ, List.getElem?_cons_zero]; rfl)
                    case hqac35 => exact fun _ _ _ h => h
                    case hwac35 => rfl
                    case hyac35 => first | (go_simp; done) | (go_simp; with_reducible rfl)
                    simp only [Act.put, List.setIfInBounds_toArray, List.set_cons_zero, List.set_cons_succ]
                    refine' wpAnyH_take (i := 37) (oi := _) (v := .pointer (some ⟨lb, 0, none⟩)) ?hiac37 (by kernel_rfl) (by kernel_rfl) (by kernel_rfl) ?hqac37 (Or.inl ⟨?hwac37, fun w hSw => ?hyac37⟩) hHeld ?hkac37
                    case hiac37 => (simp only [List.getElem?_toArray, List.getElem?_cons_succ, List.getElem?_cons_zero]; rfl)
                    case hqac37 => exact fun _ _ _ h => h
                    case hwac37 => rfl
                    case hyac37 => first | (go_simp; done) | (go_simp; with_reducible rfl)
                    simp only [Act.put, List.setIfInBounds_toArray, List.set_cons_zero, List.set_cons_succ]
                    refine' wpAnyH_take (i := 38) (oi := _) (v := .pointer (some ⟨W.heap.size, 1, none⟩)) ?hiac38 (by kernel_rfl) (by kernel_rfl) (by kernel_rfl) ?hqac38 (Or.inl ⟨?hwac38, fun w hSw => ?hyac38⟩) hHeld ?hkac38
                    case hiac38 => (simp only [List.getElem?_toArray, List.getElem?_cons_succ, List.getElem?_cons_zero]; rfl)
                    case hqac38 => exact fun _ _ _ h => h
                    case hwac38 => rfl
                    case hyac38 => first | (go_simp; done) | (go_simp; with_reducible rfl)
                    simp only [Act.put, List.setIfInBounds_toArray, List.set_cons_zero, List.set_cons_succ]
                    refine' wpAnyH_take (i := 39) (oi := _) (v := .int .i64 xa) ?hiac39 (by kernel_rfl) (by kernel_rfl) (by kernel_rfl) ?hqac39 (Or.inl ⟨?hwac39, fun w hSw => ?hyac39⟩) hHeld ?hkac39
                    case hiac39 => (simp only [List.getElem?_toArray, List.getElem?_cons_succ, List.getElem?_cons_zero]; rfl)
                    case hqac39 => exact fun _ _ _ h => h
                    case hwac39 => rfl
                    case hyac39 => first | (go_simp; done) | (go_simp; with_reducible rfl)
                    simp only [Act.put, List.setIfInBounds_toArray, List.set_cons_zero, List.set_cons_succ]
                    refine wpAnyH_ready (rs := [36]) (by kernel_rfl) (by simp) ?_
                    refine AllReadyH.cons rfl (fun K hK => ?_) AllReadyH.nil
                    go_simp
                    go_at_call 20
                    refine (e1 _ ((Chg.refl _ _).drew)).mono ?_
                    rintro e w13 ⟨rfl, hC13⟩
                    refine hK.out _ _ (HKP.out _ hC13) (fun hHeld => ?_)
                    clear hK K
                    refine wpAnyH_ready (rs := [40]) (by kernel_rfl) (by simp) ?_
                    refine AllReadyH.cons rfl (fun K hK => ?_) AllReadyH.nil
                    go_simp
                    go_at_call 20
                    refine (e2 _ hC13).mono ?_
                    rintro e w14 ⟨rfl, hC14⟩
                    refine hK.out _ _ (HKP.out _ hC14) (fun hHeld => ?_)
                    clear hK K
                    refine' wpAnyH_take (i := 41) (oi := _) (v := .bool true) ?hiac41 (by kernel_rfl) (by kernel_rfl) (by kernel_rfl) ?hqac41 (Or.inl ⟨?hwac41, fun w hSw => ?hyac41⟩) hHeld ?hkac41
                    case hiac41 => (simp only [List.getElem?_toArray, List.getElem?_cons_succ, List.getElem?_cons_zero]; rfl)
                    case hqac41 => exact fun _ _ _ h => h
                    case hwac41 => rfl
                    case hyac41 => first | (go_simp; done) | (go_simp; with_reducible rfl)
                    simp only [Act.put, List.setIfInBounds_toArray, List.set_cons_zero, List.set_cons_succ]
                    refine' wpAnyH_take (i := 42) (oi := _) (v := .bool true) ?hiac42 (by kernel_rfl) (by kernel_rfl) (by kernel_rfl) ?hqac42 (Or.inl ⟨?hwac42, fun w hSw => ?hyac42⟩) hHeld ?hkac42
                    case hiac42 => (simp only [List.getElem?_toArray, List.getElem?_cons_succ, List.getElem?_cons_zero]; rfl)
                    case hqac42 => exact fun _ _ _ h => h
                    case hwac42 => rfl
                    case hyac42 => first | (go_simp; done) | (go_simp; with_reducible rfl)
                    simp only [Act.put, List.setIfInBounds_toArray, List.set_cons_zero, List.set_cons_succ]
                    refine' wpAnyH_take (i := 43) (oi := _) (v := .bool true) ?hiac43 (by kernel_rfl) (by kernel_rfl) (by kernel_rfl) ?hqac43 (Or.inl ⟨?hwac43, fun w hSw => ?hyac43⟩) hHeld ?hkac43
                    case hiac43 => (simp only [List.getElem?_toArray, List.getElem?_cons_succ, List.getElem?_cons_zero]; rfl)
                    case hqac43 => exact fun _ _ _ h => h
                    case hwac43 => rfl
                    case hyac43 => first | (go_simp; done) | (go_simp; with_reducible rfl)
                    simp only [Act.put, List.setIfInBounds_toArray, List.set_cons_zero, List.set_cons_succ]
                    refine wpAnyH_done (by kernel_rfl) ?_ _
                    go_wp2
                    go_ret
                    exact ⟨rfl, (hCF.tr hC1112).tr hC14⟩
              · obtain ⟨q, hq1⟩ : ∃ q, Lb = q + 1 := ⟨Lb - 1, by omega⟩
                have hqw : IntKind.i64.wrap ((Lb : Int) - 1) = (q : Int) := by have := hLb.out; rw [hq1]; exact (IntWalk.i64_in _ (by omega)).trans (by omega)
                have hpos : (0 : Int) < (Lb : Int) := by omega
                have hql : (q : Int) < (Lb : Int) := by omega
                obtain ⟨b, o, c', e1, hz⟩ := hNb.cells q (by have := hLb.out; omega)
                obtain ⟨z, hzz⟩ : ∃ z, N[q]'(by have := hLb.out; omega) = z := ⟨_, rfl⟩
                rw [hzz] at hz
                injection e1 with e1 e2 e3
                clear e2 e3
                subst e1
                have z0 := hz.c0
                have hlast : N.getLast? = some z := by
                  rw [List.getLast?_eq_getElem?, show N.length - 1 = q by have := hLb.out; omega, List.getElem?_eq_getElem (by have := hLb.out; omega), hzz]
                obtain ⟨zk, za, zb, zn⟩ := z
                simp only at z0
                by_cases h3 : zk > 3
                · have h3' : (3 : Int) < zk := h3
                  clear hlast hz hzz hq1
                  go_wp2_with (go_at_call 18; (with_reducible refine pb.mono ?_); rintro e w7 ⟨rfl, rfl⟩)
                  go_ret
                  exact ⟨rfl, hCE⟩
                · have h3' : ¬ (3 : Int) < zk := h3
                  have hend : ∀ y, N.getLast? = some y → y.k ≤ 3 := fun y hy => by
                    rw [hlast] at hy
                    have := Option.some.inj hy
                    subst this
                    simp
                    omega
                  clear hlast hz hzz hq1
                  obtain ⟨hn1, hn2, hn3⟩ := last_plain HBG.out HN.out hlen hend ⟨hmx, hx⟩ ⟨hmy, hy⟩ rfl rfl
                  have hlx := (enc_may hmx hx).2.2.2
                  have hly := (enc_may hmy hy).2.2.2
                  obtain ⟨vsc, hc1, hc2⟩ := hR6
                  obtain ⟨aoc, Lc, cc, rfl, hLc⟩ := owns_name hc1
                  have hLc' : Lc = 2 := hLc.out
                  subst hLc'
                  have hPW := HP.out.fr hCE
                  obtain ⟨vsl, u1, u2, u3, u4⟩ := pay_parts hPW
                  obtain ⟨vsr, t1, t2, t3, t4⟩ := rowp_parts hc1 hc2
                  obtain ⟨i0, hinf, hz0, hz1, hz2⟩ := info_parts info_bytes
                  have HU := Lib.hid u4
                  have HT := Lib.hid t4
                  have HU2 := Lib.hid u2
                  have HT2 := Lib.hid t2
                  clear u2 t2 u4 t4 hc1 hc2 hPW hlen hend
                  go_wp2_with fail
                  refine pb.mono ?_
                  rintro e w7 ⟨rfl, rfl⟩
                  go_wp2_with (first
                    | (at_builtin; (refine wpList_append_own_any rfl (.tmp 101) (.tmp 102) 36 rfl w7.heap.size 24 i0 (.slice none 0 0) 1 24 und_pays hinf hz0 hz1 hz2 rfl (by decide) (.slice (some ⟨w7.heap.size, 0, none⟩) 0 0) 0 [] rfl (World.ownsRow_lit w7 #[] 0 (Nat.le_refl _) (Nat.zero_le _) rfl) ao ps.length c _ rfl u1 (HU2.out _ ((Chg.refl (fun _ => False) w7).alloc (.cells #[] 24))) u3 (by unfold maxLen; omega) (by omega) (by simp) ?_; intro v8 w8 hown8 hg8 _ hO8; have hC8 : Chg (fun _ => False) w7 w8 := ((Chg.refl (fun _ => False) w7).alloc (.cells #[] 24)).grown hg8 (fun k e => .inr (by simp [Value.ownBlock] at e; omega))))
                    | (at_builtin; (refine wpList_append_own_any rfl (.tmp 103) (.tmp 104) 36 rfl w7.heap.size 24 i0 (.slice none 0 0) 1 24 und_pays hinf hz0 hz1 hz2 rfl (by decide) v8 _ _ rfl hown8 aoc 2 cc _ rfl t1 (HT2.out _ hC8) t3 (by unfold maxLen; omega) (by omega) hC8.size ?_; intro v9 w9 hown9 hg9 _ hO9; have hC9 : Chg (fun _ => False) w7 w9 := hC8.grown hg9 (fun k e => .inr (hown8.lt k e).1))))
                  rw [List.nil_append] at hown9
                  have hP9 := pay_cat hown9 HU.out.1 HT.out.1 (HU.out.2 _ hC9) (HT.out.2 _ hC9)
                  rw [List.map_cons, List.map_cons, List.map_nil] at hP9
                  have hnw := newP_any s _ v9 w9 hP9 (by simp; omega) (fun xs hx => by
                    rcases List.mem_append.1 hx with h | h
                    · exact hlens.2 xs h
                    · rcases List.mem_cons.1 h with rfl | h
                      · rw [hlx]; decide
                      · rw [List.mem_singleton.1 h, hly]; decide) true _ _ hn1 hn2 hn3
                  refine hnw.mono ?_
                  clear hnw hP9 hown9 hg9 hO9 hown8 hg8 hO8 hC8 u1 u3 t1 t3
                  rintro e w10 ⟨lb2, mb2, ba2, vl2, st2, rfl, hLm, _, hC10⟩
                  have hC7 := hC9.tr hC10
                  have hLa := hL6.chg hC7 id id (fun _ _ => id)
                  have hbx7 := hbx6.fr hC7
                  have hby7 := hby6.fr hC7
                  clear x0 x1 x2 x3 y0 y1 y2 y3
                  obtain ⟨x0, x1, x2, x3⟩ := id hbx7
                  obtain ⟨y0, y1, y2, y3⟩ := id hby7
                  have hokf : ∀ z ∈ (fil N).reverse, z.ok := fun z hz => (hNm z (fil_sub hz)).2
                  have hokm : ∀ z ∈ (⟨3, ya, yb, yn⟩ : Nt) :: ⟨3, xa, xb, xn⟩ :: (fil N).reverse, z.ok := fun z hz => by
                    rcases List.mem_cons.1 hz with rfl | hz
                    · exact hy
                    · rcases List.mem_cons.1 hz with rfl | hz
                      · exact hx
                      · exact hokf z hz
                  have hfl := fil_len N
                  obtain ⟨DD, hDD⟩ : ∃ DD : Int, (doneN (fil N).reverse xa : Int) = DD := ⟨_, rfl⟩
                  have hD1 : (doneN ((⟨3, ya, yb, yn⟩ : Nt) :: ⟨3, xa, xb, xn⟩ :: (fil N).reverse) xa : Int) = DD := by
                    rw [doneN_cons (three_two _ _ _), doneN_cons (three_two _ _ _)]
                    exact hDD
                  have d1 := fun w' (h : Chg (fun _ => False) w10 w') => done_of (hLm.chg h id id (fun _ _ => id)) hokm (by simp at hfl; simp; omega) xa DD hD1
                  have d2 := fun w' (h : Chg (fun _ => False) w10 w') => done_of (hLa.chg h id id (fun _ _ => id)) hokf (by simp at hfl; simp; omega) xa DD hDD
                  have r2 := fun w' (h : Chg (fun _ => False) w10 w') => run_of (hLm.chg h id id (fun _ _ => id)) hokm ya yb hy.2.1 hy.2.2.1 yn true (by simp [fileOf]) (fun h => by cases h)
                  have hCF := hCE.tr hC7
                  clear hn1 hn2 hn3 hlx hly hfl hNl hNm hDD hD1 hLa
                  by_cases hs : ya = xa ∧ yb = xb
                  · obtain ⟨rfl, rfl⟩ := hs
                    have r1 := run_of hLm hokm ya yb hx.2.1 hx.2.2.1 yn true (by simp [fileOf]) (fun h => by cases h)
                    clear hLm hokm
                    have bq1 : (yn == yn) = true := beq_self_eq_true yn
                    have bq2 : (xn == xn) = true := beq_self_eq_true xn
                    have bq3 : (DD == DD) = true := beq_self_eq_true DD
                    go_wp2_with fail
                    refine r1.mono ?_
                    clear r1
                    rintro e w11 ⟨rfl, hC11⟩
                    replace x0 := hC11.cell x0 id
                    replace x1 := hC11.cell x1 id
                    replace x2 := hC11.cell x2 id
                    replace x3 := hC11.cell x3 id
                    replace y0 := hC11.cell y0 id
                    replace y1 := hC11.cell y1 id
                    replace y2 := hC11.cell y2 id
                    replace y3 := hC11.cell y3 id
                    go_wp2_with fail
                    refine (r2 _ hC11).mono ?_
                    clear r2
                    rintro e w12 ⟨rfl, hC12⟩
                    replace x0 := hC12.cell x0 id
                    replace x1 := hC12.cell x1 id
                    replace x2 := hC12.cell x2 id
                    replace x3 := hC12.cell x3 id
                    replace y0 := hC12.cell y0 id
                    replace y1 := hC12.cell y1 id
                    replace y2 := hC12.cell y2 id
                    replace y3 := hC12.cell y3 id
                    have hC1112 := hC11.tr hC12
                    have e1 : ∀ w', Chg (fun _ => False) w12 w' → Calls Try.prog 20 #[.pointer (some ⟨lb2, 0, none⟩), .int .i64 ya] w' (fun e w'' => e = .returned (.int .i64 DD) ∧ Chg (fun _ => False) w12 w'') := fun w' h => (d1 w' (hC1112.tr h)).mono (fun e w'' hh => ⟨hh.1, h.tr hh.2⟩)
                    have e2 : ∀ w', Chg (fun _ => False) w12 w' → Calls Try.prog 20 #[.pointer (some ⟨lb, 0, none⟩), .int .i64 ya] w' (fun e w'' => e = .returned (.int .i64 DD) ∧ Chg (fun _ => False) w12 w'') := fun w' h => (d2 w' (hC1112.tr h)).mono (fun e w'' hh => ⟨hh.1, h.tr hh.2⟩)
                    clear d1 d2
                    have KP : ∀ w', Chg (fun _ => False) w12 w' → (Chg (fun _ => False) w12 w' ∧ w'.cell? ⟨W.heap.size, 1, none⟩ = some (.int .i64 ya) ∧ w'.cell? ⟨W.heap.size, 3, none⟩ = some (.int .i64 xn) ∧ w'.cell? ⟨W.heap.size + 1, 3, none⟩ = some (.int .i64 yn)) := fun w' h => ⟨h, h.cell x1 id, h.cell x3 id, h.cell y3 id⟩
                    have HKP := Lib.hid KP
                    clear KP
                    go_wp2_with fail
                    refine wp_region_held_drew (S := fun w' => Chg (fun _ => False) w12 w' ∧ w'.cell? ⟨W.heap.size, 1, none⟩ = some (.int .i64 ya) ∧ w'.cell? ⟨W.heap.size, 3, none⟩ = some (.int .i64 xn) ∧ w'.cell? ⟨W.heap.size + 1, 3, none⟩ = some (.int .i64 yn)) (by kernel_rfl) (HKP.out _ ((Chg.refl _ _).drew)) (fun hHeld => ?_)
                    refine' wpAnyH_take (i := 0) (oi := _) (v := .bool true) ?hiba0 (by kernel_rfl) (by kernel_rfl) (by kernel_rfl) ?hqba0 (Or.inl ⟨?hwba0, fun w hSw => ?hyba0⟩) hHeld ?hkba0
                    case hiba0 => (simp only [List.getElem?_toArray, List.getElem?_cons_zero]; rfl)
                    case hqba0 => exact fun _ _ _ h => h
                    case hwba0 => rfl
                    case hyba0 => first | (go_simp; done) | (go_simp; with_reducible rfl)
                    simp only [Act.put, List.setIfInBounds_toArray, List.set_cons_zero, List.set_cons_succ]
                    refine' wpAnyH_take (i := 1) (oi := _) (v := .bool true) ?hiba1 (by kernel_rfl) (by kernel_rfl) (by kernel_rfl) ?hqba1 (Or.inl ⟨?hwba1, fun w hSw => ?hyba1⟩) hHeld ?hkba1
                    case hiba1 => (simp only [List.getElem?_toArray, List.getElem?_cons_succ, List.getElem?_cons_zero]; rfl)
                    case hqba1 => exact fun _ _ _ h => h
                    case hwba1 => rfl
                    case hyba1 => first | (go_simp; done) | (go_simp; with_reducible rfl)
                    simp only [Act.put, List.setIfInBounds_toArray, List.set_cons_zero, List.set_cons_succ]
                    refine' wpAnyH_take (i := 2) (oi := _) (v := .bool true) ?hiba2 (by kernel_rfl) (by kernel_rfl) (by kernel_rfl) ?hqba2 (Or.inl ⟨?hwba2, fun w hSw => ?hyba2⟩) hHeld ?hkba2
                    case hiba2 => (simp only [List.getElem?_toArray, List.getElem?_cons_succ, List.getElem?_cons_zero]; rfl)
                    case hqba2 => exact fun _ _ _ h => h
                    case hwba2 => rfl
                    case hyba2 => first | (go_simp; done) | (go_simp; with_reducible rfl)
                    simp only [Act.put, List.setIfInBounds_toArray, List.set_cons_zero, List.set_cons_succ]
                    refine' wpAnyH_take (i := 3) (oi := _) (v := .bool true) ?hiba3 (by kernel_rfl) (by kernel_rfl) (by kernel_rfl) ?hqba3 (Or.inl ⟨?hwba3, fun w hSw => ?hyba3⟩) hHeld ?hkba3
                    case hiba3 => (simp only [List.getElem?_toArray, List.getElem?_cons_succ, List.getElem?_cons_zero]; rfl)
                    case hqba3 => exact fun _ _ _ h => h
                    case hwba3 => rfl
                    case hyba3 => first | (go_simp; done) | (go_simp; with_reducible rfl)
                    simp only [Act.put, List.setIfInBounds_toArray, List.set_cons_zero, List.set_cons_succ]
                    refine' wpAnyH_take (i := 4) (oi := _) (v := .bool true) ?hiba4 (by kernel_rfl) (by kernel_rfl) (by kernel_rfl) ?hqba4 (Or.inl ⟨?hwba4, fun w hSw => ?hyba4⟩) hHeld ?hkba4
                    case hiba4 => (simp only [List.getElem?_toArray, List.getElem?_cons_succ, List.getElem?_cons_zero]; rfl)
                    case hqba4 => exact fun _ _ _ h => h
                    case hwba4 => rfl
                    case hyba4 => first | (go_simp; done) | (go_simp; with_reducible rfl)
                    simp only [Act.put, List.setIfInBounds_toArray, List.set_cons_zero, List.set_cons_succ]
                    refine' wpAnyH_take (i := 5) (oi := _) (v := .bool true) ?hiba5 (by kernel_rfl) (by kernel_rfl) (by kernel_rfl) ?hqba5 (Or.inl ⟨?hwba5, fun w hSw => ?hyba5⟩) hHeld ?hkba5
                    case hiba5 => (simp only [List.getElem?_toArray, List.getElem?_cons_succ, List.getElem?_cons_zero]; rfl)
                    case hqba5 => exact fun _ _ _ h => h
                    case hwba5 => rfl
                    case hyba5 => first | (go_simp; done) | (go_simp; with_reducible rfl)
                    simp only [Act.put, List.setIfInBounds_toArray, List.set_cons_zero, List.set_cons_succ]
                    refine' wpAnyH_take (i := 6) (oi := _) (v := .bool true) ?hiba6 (by kernel_rfl) (by kernel_rfl) (by kernel_rfl) ?hqba6 (Or.inl ⟨?hwba6, fun w hSw => ?hyba6⟩) hHeld ?hkba6
                    case hiba6 => (simp only [List.getElem?_toArray, List.getElem?_cons_succ, List.getElem?_cons_zero]; rfl)
                    case hqba6 => exact fun _ _ _ h => h
                    case hwba6 => rfl
                    case hyba6 => first | (go_simp; done) | (go_simp; with_reducible rfl)
                    simp only [Act.put, List.setIfInBounds_toArray, List.set_cons_zero, List.set_cons_succ]
                    refine' wpAnyH_take (i := 7) (oi := _) (v := .bool true) ?hiba7 (by kernel_rfl) (by kernel_rfl) (by kernel_rfl) ?hqba7 (Or.inl ⟨?hwba7, fun w hSw => ?hyba7⟩) hHeld ?hkba7
                    case hiba7 => (simp only [List.getElem?_toArray, List.getElem?_cons_succ, List.getElem?_cons_zero]; rfl)
                    case hqba7 => exact fun _ _ _ h => h
                    case hwba7 => rfl
                    case hyba7 => first | (go_simp; done) | (go_simp; with_reducible rfl)
                    simp only [Act.put, List.setIfInBounds_toArray, List.set_cons_zero, List.set_cons_succ]
                    refine' wpAnyH_take (i := 8) (oi := _) (v := .int .i64 yn) ?hiba8 (by kernel_rfl) (by kernel_rfl) (by kernel_rfl) ?hqba8 (Or.inl ⟨?hwba8, fun w hSw => ?hyba8⟩) hHeld ?hkba8
                    case hiba8 => (simp only [List.getElem?_toArray, List.getElem?_cons_succ, List.getElem?_cons_zero]; rfl)
                    case hqba8 => exact fun _ _ _ h => h
                    case hwba8 => rfl
                    case hyba8 => first | (go_simp; done) | (go_simp; with_reducible rfl)
                    simp only [Act.put, List.setIfInBounds_toArray, List.set_cons_zero, List.set_cons_succ]
                    refine' wpAnyH_take (i := 9) (oi := _) (v := .pointer (some ⟨W.heap.size + 1, 3, none⟩)) ?hiba9 (by kernel_rfl) (by kernel_rfl) (by kernel_rfl) ?hqba9 (Or.inl ⟨?hwba9, fun w hSw => ?hyba9⟩) hHeld ?hkba9
                    case hiba9 => (simp only [List.getElem?_toArray, List.getElem?_cons_succ, List.getElem?_cons_zero]; rfl)
                    case hqba9 => exact fun _ _ _ h => h
                    case hwba9 => rfl
                    case hyba9 => first | (go_simp; done) | (go_simp; with_reducible rfl)
                    simp only [Act.put, List.setIfInBounds_toArray, List.set_cons_zero, List.set_cons_succ]
                    refine' wpAnyH_take (i := 10) (oi := _) (v := .int .i64 yn) ?hiba10 (by kernel_rfl) (by kernel_rfl) (by kernel_rfl) ?hqba10 (Or.inl ⟨?hwba10, fun w hSw => ?hyba10⟩) hHeld ?hkba10
                    case hiba10 => (simp only [List.getElem?_toArray, List.getElem?_cons_succ, List.getElem?_cons_zero]; rfl)
                    case hqba10 => exact fun _ _ _ h => h
                    case hwba10 => rfl
                    case hyba10 => first | (go_simp; done) | (go_simp; with_reducible rfl)
                    simp only [Act.put, List.setIfInBounds_toArray, List.set_cons_zero, List.set_cons_succ]
                    refine' wpAnyH_take (i := 11) (oi := _) (v := .bool true) ?hiba11 (by kernel_rfl) (by kernel_rfl) (by kernel_rfl) ?hqba11 (Or.inl ⟨?hwba11, fun w hSw => ?hyba11⟩) hHeld ?hkba11
                    case hiba11 => (simp only [List.getElem?_toArray, List.getElem?_cons_succ, List.getElem?_cons_zero]; rfl)
                    case hqba11 => exact fun _ _ _ h => h
                    case hwba11 => rfl
                    case hyba11 => first | (go_simp; done) | (go_simp; with_reducible rfl)
                    simp only [Act.put, List.setIfInBounds_toArray, List.set_cons_zero, List.set_cons_succ]
                    refine' wpAnyH_take (i := 12) (oi := _) (v := .bool true) ?hiba12 (by kernel_rfl) (by kernel_rfl) (by kernel_rfl) ?hqba12 (Or.inl ⟨?hwba12, fun w hSw => ?hyba12⟩) hHeld ?hkba12
                    case hiba12 => (simp only [List.getElem?_toArray, List.getElem?_cons_succ, List.getElem?_cons_zero]; rfl)
                    case hqba12 => exact fun _ _ _ h => h
                    case hwba12 => rfl
                    case hyba12 => first | (go_simp; done) | (go_simp; with_reducible rfl)
                    simp only [Act.put, List.setIfInBounds_toArray, List.set_cons_zero, List.set_cons_succ]
                    refine' wpAnyH_take (i := 13) (oi := _) (v := .bool true) ?hiba13 (by kernel_rfl) (by kernel_rfl) (by kernel_rfl) ?hqba13 (Or.inl ⟨?hwba13, fun w hSw => ?hyba13⟩) hHeld ?hkba13
                    case hiba13 => (simp only [List.getElem?_toArray, List.getElem?_cons_succ, List.getElem?_cons_zero]; rfl)
                    case hqba13 => exact fun _ _ _ h => h
                    case hwba13 => rfl
                    case hyba13 => first | (go_simp; done) | (go_simp; with_reducible rfl)
                    simp only [Act.put, List.setIfInBounds_toArray, List.set_cons_zero, List.set_cons_succ]
                    refine' wpAnyH_take (i := 14) (oi := _) (v := .bool true) ?hiba14 (by kernel_rfl) (by kernel_rfl) (by kernel_rfl) ?hqba14 (Or.inl ⟨?hwba14, fun w hSw => ?hyba14⟩) hHeld ?hkba14
                    case hiba14 => (simp only [List.getElem?_toArray, List.getElem?_cons_succ, List.getElem?_cons_zero]; rfl)
                    case hqba14 => exact fun _ _ _ h => h
                    case hwba14 => rfl
                    case hyba14 => first | (go_simp; done) | (go_simp; with_reducible rfl)
                    simp only [Act.put, List.setIfInBounds_toArray, List.set_cons_zero, List.set_cons_succ]
                    refine' wpAnyH_take (i := 15) (oi := _) (v := .bool true) ?hiba15 (by kernel_rfl) (by kernel_rfl) (by kernel_rfl) ?hqba15 (Or.inl ⟨?hwba15, fun w hSw => ?hyba15⟩) hHeld ?hkba15
                    case hiba15 => (simp only [List.getElem?_toArray, List.getElem?_cons_succ, List.getElem?_cons_zero]; rfl)
                    case hqba15 => exact fun _ _ _ h => h
                    case hwba15 => rfl
                    case hyba15 => first | (go_simp; done) | (go_simp; with_reducible rfl)
                    simp only [Act.put, List.setIfInBounds_toArray, List.set_cons_zero, List.set_cons_succ]
                    refine' wpAnyH_take (i := 16) (oi := _) (v := .int .i64 yn) ?hiba16 (by kernel_rfl) (by kernel_rfl) (by kernel_rfl) ?hqba16 (Or.inl ⟨?hwba16, fun w hSw => ?hyba16⟩) hHeld ?hkba16
                    case hiba16 => (simp only [List.getElem?_toArray, List.getElem?_cons_succ, List.getElem?_cons_zero]; rfl)
                    case hqba16 => exact fun _ _ _ h => h
                    case hwba16 => rfl
                    case hyba16 => first | (go_simp; done) | (go_simp; with_reducible rfl)
                    simp only [Act.put, List.setIfInBounds_toArray, List.set_cons_zero, List.set_cons_succ]
                    refine' wpAnyH_take (i := 17) (oi := _) (v := .pointer (some ⟨W.heap.size + 1, 3, none⟩)) ?hiba17 (by kernel_rfl) (by kernel_rfl) (by kernel_rfl) ?hqba17 (Or.inl ⟨?hwba17, fun w hSw => ?hyba17⟩) hHeld ?hkba17
                    case hiba17 => (simp only [List.getElem?_toArray, List.getElem?_cons_succ, List.getElem?_cons_zero]; rfl)
                    case hqba17 => exact fun _ _ _ h => h
                    case hwba17 => rfl
                    case hyba17 => first | (go_simp; done) | (go_simp; with_reducible rfl)
                    simp only [Act.put, List.setIfInBounds_toArray, List.set_cons_zero, List.set_cons_succ]
                    refine' wpAnyH_take (i := 18) (oi := _) (v := .int .i64 yn) ?hiba18 (by kernel_rfl) (by kernel_rfl) (by kernel_rfl) ?hqba18 (Or.inl ⟨?hwba18, fun w hSw => ?hyba18⟩) hHeld ?hkba18
                    case hiba18 => (simp only [List.getElem?_toArray, List.getElem?_cons_succ, List.getElem?_cons_zero]; rfl)
                    case hqba18 => exact fun _ _ _ h => h
                    case hwba18 => rfl
                    case hyba18 => first | (go_simp; done) | (go_simp; with_reducible rfl)
                    simp only [Act.put, List.setIfInBounds_toArray, List.set_cons_zero, List.set_cons_succ]
                    refine' wpAnyH_take (i := 19) (oi := _) (v := .bool true) ?hiba19 (by kernel_rfl) (by kernel_rfl) (by kernel_rfl) ?hqba19 (Or.inl ⟨?hwba19, fun w hSw => ?hyba19⟩) hHeld ?hkba19
                    case hiba19 => (simp only [List.getElem?_toArray, List.getElem?_cons_succ, List.getElem?_cons_zero]; rfl)
                    case hqba19 => exact fun _ _ _ h => h
                    case hwba19 => rfl
                    case hyba19 => first | (go_simp; done) | (go_simp; with_reducible rfl)
                    simp only [Act.put, List.setIfInBounds_toArray, List.set_cons_zero, List.set_cons_succ]
                    refine' wpAnyH_take (i := 20) (oi := _) (v := .bool true) ?hiba20 (by kernel_rfl) (by kernel_rfl) (by kernel_rfl) ?hqba20 (Or.inl ⟨?hwba20, fun w hSw => ?hyba20⟩) hHeld ?hkba20
                    case hiba20 => (simp only [List.getElem?_toArray, List.getElem?_cons_succ, List.getElem?_cons_zero]; rfl)
                    case hqba20 => exact fun _ _ _ h => h
                    case hwba20 => rfl
                    case hyba20 => first | (go_simp; done) | (go_simp; with_reducible rfl)
                    simp only [Act.put, List.setIfInBounds_toArray, List.set_cons_zero, List.set_cons_succ]
                    refine' wpAnyH_take (i := 21) (oi := _) (v := .bool true) ?hiba21 (by kernel_rfl) (by kernel_rfl) (by kernel_rfl) ?hqba21 (Or.inl ⟨?hwba21, fun w hSw => ?hyba21⟩) hHeld ?hkba21
                    case hiba21 => (simp only [List.getElem?_toArray, List.getElem?_cons_succ, List.getElem?_cons_zero]; rfl)
                    case hqba21 => exact fun _ _ _ h => h
                    case hwba21 => rfl
                    case hyba21 => first | (go_simp; done) | (go_simp; with_reducible rfl)
                    simp only [Act.put, List.setIfInBounds_toArray, List.set_cons_zero, List.set_cons_succ]
                    refine' wpAnyH_take (i := 22) (oi := _) (v := undef) ?hiba22 (by kernel_rfl) (by kernel_rfl) (by kernel_rfl) ?hqba22 (Or.inr ⟨?hwba22, rfl⟩) hHeld ?hkba22
                    case hiba22 => (simp only [List.getElem?_toArray, List.getElem?_cons_succ, List.getElem?_cons_zero]; rfl)
                    case hqba22 => exact fun _ _ _ h => h
                    case hwba22 => rfl
                    simp only [Act.put, List.setIfInBounds_toArray, List.set_cons_zero, List.set_cons_succ]
                    refine' wpAnyH_take (i := 23) (oi := _) (v := undef) ?hiba23 (by kernel_rfl) (by kernel_rfl) (by kernel_rfl) ?hqba23 (Or.inr ⟨?hwba23, rfl⟩) hHeld ?hkba23
                    case hiba23 => (simp only [List.getElem?_toArray, List.getElem?_cons_succ, List.getElem?_cons_zero]; rfl)
                    case hqba23 => exact fun _ _ _ h => h
                    case hwba23 => rfl
                    simp only [Act.put, List.setIfInBounds_toArray, List.set_cons_zero, List.set_cons_succ]
                    refine' wpAnyH_take (i := 24) (oi := _) (v := undef) ?hiba24 (by kernel_rfl) (by kernel_rfl) (by kernel_rfl) ?hqba24 (Or.inr ⟨?hwba24, rfl⟩) hHeld ?hkba24
                    case hiba24 => (simp only [List.getElem?_toArray, List.getElem?_cons_succ, List.getElem?_cons_zero]; rfl)
                    case hqba24 => exact fun _ _ _ h => h
                    case hwba24 => rfl
                    simp only [Act.put, List.setIfInBounds_toArray, List.set_cons_zero, List.set_cons_succ]
                    refine' wpAnyH_take (i := 25) (oi := _) (v := undef) ?hiba25 (by kernel_rfl) (by kernel_rfl) (by kernel_rfl) ?hqba25 (Or.inr ⟨?hwba25, rfl⟩) hHeld ?hkba25
                    case hiba25 => (simp only [List.getElem?_toArray, List.getElem?_cons_succ, List.getElem?_cons_zero]; rfl)
                    case hqba25 => exact fun _ _ _ h => h
                    case hwba25 => rfl
                    simp only [Act.put, List.setIfInBounds_toArray, List.set_cons_zero, List.set_cons_succ]
                    refine' wpAnyH_take (i := 26) (oi := _) (v := undef) ?hiba26 (by kernel_rfl) (by kernel_rfl) (by kernel_rfl) ?hqba26 (Or.inr ⟨?hwba26, rfl⟩) hHeld ?hkba26
                    case hiba26 => (simp only [List.getElem?_toArray, List.getElem?_cons_succ, List.getElem?_cons_zero]; rfl)
                    case hqba26 => exact fun _ _ _ h => h
                    case hwba26 => rfl
                    simp only [Act.put, List.setIfInBounds_toArray, List.set_cons_zero, List.set_cons_succ]
                    refine' wpAnyH_take (i := 27) (oi := _) (v := undef) ?hiba27 (by kernel_rfl) (by kernel_rfl) (by kernel_rfl) ?hqba27 (Or.inr ⟨?hwba27, rfl⟩) hHeld ?hkba27
                    case hiba27 => (simp only [List.getElem?_toArray, List.getElem?_cons_succ, List.getElem?_cons_zero]; rfl)
                    case hqba27 => exact fun _ _ _ h => h
                    case hwba27 => rfl
                    simp only [Act.put, List.setIfInBounds_toArray, List.set_cons_zero, List.set_cons_succ]
                    refine' wpAnyH_take (i := 28) (oi := _) (v := undef) ?hiba28 (by kernel_rfl) (by kernel_rfl) (by kernel_rfl) ?hqba28 (Or.inr ⟨?hwba28, rfl⟩) hHeld ?hkba28
                    case hiba28 => (simp only [List.getElem?_toArray, List.getElem?_cons_succ, List.getElem?_cons_zero]; rfl)
                    case hqba28 => exact fun _ _ _ h => h
                    case hwba28 => rfl
                    simp only [Act.put, List.setIfInBounds_toArray, List.set_cons_zero, List.set_cons_succ]
                    refine' wpAnyH_take (i := 29) (oi := _) (v := undef) ?hiba29 (by kernel_rfl) (by kernel_rfl) (by kernel_rfl) ?hqba29 (Or.inr ⟨?hwba29, rfl⟩) hHeld ?hkba29
                    case hiba29 => (simp only [List.getElem?_toArray, List.getElem?_cons_succ, List.getElem?_cons_zero]; rfl)
                    case hqba29 => exact fun _ _ _ h => h
                    case hwba29 => rfl
                    simp only [Act.put, List.setIfInBounds_toArray, List.set_cons_zero, List.set_cons_succ]
                    refine' wpAnyH_take (i := 30) (oi := _) (v := .bool true) ?hiba30 (by kernel_rfl) (by kernel_rfl) (by kernel_rfl) ?hqba30 (Or.inl ⟨?hwba30, fun w hSw => ?hyba30⟩) hHeld ?hkba30
                    case hiba30 => (simp only [List.getElem?_toArray, List.getElem?_cons_succ, List.getElem?_cons_zero]; rfl)
                    case hqba30 => exact fun _ _ _ h => h
                    case hwba30 => rfl
                    case hyba30 => first | (go_simp; done) | (go_simp; with_reducible rfl)
                    simp only [Act.put, List.setIfInBounds_toArray, List.set_cons_zero, List.set_cons_succ]
                    refine' wpAnyH_take (i := 31) (oi := _) (v := .bool true) ?hiba31 (by kernel_rfl) (by kernel_rfl) (by kernel_rfl) ?hqba31 (Or.inl ⟨?hwba31, fun w hSw => ?hyba31⟩) hHeld ?hkba31
                    case hiba31 => (simp only [List.getElem?_toArray, List.getElem?_cons_succ, List.getElem?_cons_zero]; rfl)
                    case hqba31 => exact fun _ _ _ h => h
                    case hwba31 => rfl
                    case hyba31 => first | (go_simp; done) | (go_simp; with_reducible rfl)
                    simp only [Act.put, List.setIfInBounds_toArray, List.set_cons_zero, List.set_cons_succ]
                    refine' wpAnyH_take (i := 32) (oi := _) (v := .bool true) ?hiba32 (by kernel_rfl) (by kernel_rfl) (by kernel_rfl) ?hqba32 (Or.inl ⟨?hwba32, fun w hSw => ?hyba32⟩) hHeld ?hkba32
                    case hiba32 => (simp only [List.getElem?_toArray, List.getElem?_cons_succ, List.getElem?_cons_zero]; rfl)
                    case hqba32 => exact fun _ _ _ h => h
                    case hwba32 => rfl
                    case hyba32 => first | (go_simp; done) | (go_simp; with_reducible rfl)
                    simp only [Act.put, List.setIfInBounds_toArray, List.set_cons_zero, List.set_cons_succ]
                    refine' wpAnyH_take (i := 33) (oi := _) (v := .pointer (some ⟨lb2, 0, none⟩)) ?hiba33 (by kernel_rfl) (by kernel_rfl) (by kernel_rfl) ?hqba33 (Or.inl ⟨?hwba33, fun w hSw => ?hyba33⟩) hHeld ?hkba33
                    case hiba33 => (simp only [List.getElem?_toArray, List.getElem?_cons_succ, List.getElem?_cons_zero]; rfl)
                    case hqba33 => exact fun _ _ _ h => h
                    case hwba33 => rfl
                    case hyba33 => first | (go_simp; done) | (go_simp; with_reducible rfl)
                    simp only [Act.put, List.setIfInBounds_toArray, List.set_cons_zero, List.set_cons_succ]
                    refine' wpAnyH_take (i := 34) (oi := _) (v := .pointer (some ⟨W.heap.size, 1, none⟩)) ?hiba34 (by kernel_rfl) (by kernel_rfl) (by kernel_rfl) ?hqba34 (Or.inl ⟨?hwba34, fun w hSw => ?hyba34⟩) hHeld ?hkba34
                    case hiba34 => (simp only [List.getElem?_toArray, List.getElem?_cons_succ, List.getElem?_cons_zero]; rfl)
                    case hqba34 => exact fun _ _ _ h => h
                    case hwba34 => rfl
                    case hyba34 => first | (go_simp; done) | (go_simp; with_reducible rfl)
                    simp only [Act.put, List.setIfInBounds_toArray, List.set_cons_zero, List.set_cons_succ]
                    refine' wpAnyH_take (i := 35) (oi := _) (v := .int .i64 ya) ?hiba35 (by kernel_rfl) (by kernel_rfl) (by kernel_rfl) ?hqba35 (Or.inl ⟨?hwba35, fun w hSw => ?hyba35⟩) hHeld ?hkba35
                    case hiba35 => (simp only [List.getElem?_toArray, List.getElem?_cons_succ, List.getElem?_cons_zero]; rfl)
                    case hqba35 => exact fun _ _ _ h => h
                    case hwba35 => rfl
                    case hyba35 => first | (go_simp; done) | (go_simp; with_reducible rfl)
                    simp only [Act.put, List.setIfInBounds_toArray, List.set_cons_zero, List.set_cons_succ]
                    refine' wpAnyH_take (i := 37) (oi := _) (v := .pointer (some ⟨lb, 0, none⟩)) ?hiba37 (by kernel_rfl) (by kernel_rfl) (by kernel_rfl) ?hqba37 (Or.inl ⟨?hwba37, fun w hSw => ?hyba37⟩) hHeld ?hkba37
                    case hiba37 => (simp only [List.getElem?_toArray, List.getElem?_cons_succ, List.getElem?_cons_zero]; rfl)
                    case hqba37 => exact fun _ _ _ h => h
                    case hwba37 => rfl
                    case hyba37 => first | (go_simp; done) | (go_simp; with_reducible rfl)
                    simp only [Act.put, List.setIfInBounds_toArray, List.set_cons_zero, List.set_cons_succ]
                    refine' wpAnyH_take (i := 38) (oi := _) (v := .pointer (some ⟨W.heap.size, 1, none⟩)) ?hiba38 (by kernel_rfl) (by kernel_rfl) (by kernel_rfl) ?hqba38 (Or.inl ⟨?hwba38, fun w hSw => ?hyba38⟩) hHeld ?hkba38
                    case hiba38 => (simp only [List.getElem?_toArray, List.getElem?_cons_succ, List.getElem?_cons_zero]; rfl)
                    case hqba38 => exact fun _ _ _ h => h
                    case hwba38 => rfl
                    case hyba38 => first | (go_simp; done) | (go_simp; with_reducible rfl)
                    simp only [Act.put, List.setIfInBounds_toArray, List.set_cons_zero, List.set_cons_succ]
                    refine' wpAnyH_take (i := 39) (oi := _) (v := .int .i64 ya) ?hiba39 (by kernel_rfl) (by kernel_rfl) (by kernel_rfl) ?hqba39 (Or.inl ⟨?hwba39, fun w hSw => ?hyba39⟩) hHeld ?hkba39
                    case hiba39 => (simp only [List.getElem?_toArray, List.getElem?_cons_succ, List.getElem?_cons_zero]; rfl)
                    case hqba39 => exact fun _ _ _ h => h
                    case hwba39 => rfl
                    case hyba39 => first | (go_simp; done) | (go_simp; with_reducible rfl)
                    simp only [Act.put, List.setIfInBounds_toArray, List.set_cons_zero, List.set_cons_succ]
                    refine wpAnyH_ready (rs := [36]) (by kernel_rfl) (by simp) ?_
                    refine AllReadyH.cons rfl (fun K hK => ?_) AllReadyH.nil
                    go_simp
                    go_at_call 20
                    refine (e1 _ ((Chg.refl _ _).drew)).mono ?_
                    rintro e w13 ⟨rfl, hC13⟩
                    refine hK.out _ _ (HKP.out _ hC13) (fun hHeld => ?_)
                    clear hK K
                    refine wpAnyH_ready (rs := [40]) (by kernel_rfl) (by simp) ?_
                    refine AllReadyH.cons rfl (fun K hK => ?_) AllReadyH.nil
                    go_simp
                    go_at_call 20
                    refine (e2 _ hC13).mono ?_
                    rintro e w14 ⟨rfl, hC14⟩
                    refine hK.out _ _ (HKP.out _ hC14) (fun hHeld => ?_)
                    clear hK K
                    refine' wpAnyH_take (i := 41) (oi := _) (v := .bool true) ?hiba41 (by kernel_rfl) (by kernel_rfl) (by kernel_rfl) ?hqba41 (Or.inl ⟨?hwba41, fun w hSw => ?hyba41⟩) hHeld ?hkba41
                    case hiba41 => (simp only [List.getElem?_toArray, List.getElem?_cons_succ, List.getElem?_cons_zero]; rfl)
                    case hqba41 => exact fun _ _ _ h => h
                    case hwba41 => rfl
                    case hyba41 => first | (go_simp; done) | (go_simp; with_reducible rfl)
                    simp only [Act.put, List.setIfInBounds_toArray, List.set_cons_zero, List.set_cons_succ]
                    refine' wpAnyH_take (i := 42) (oi := _) (v := .bool true) ?hiba42 (by kernel_rfl) (by kernel_rfl) (by kernel_rfl) ?hqba42 (Or.inl ⟨?hwba42, fun w hSw => ?hyba42⟩) hHeld ?hkba42
                    case hiba42 => (simp only [List.getElem?_toArray, List.getElem?_cons_succ, List.getElem?_cons_zero]; rfl)
                    case hqba42 => exact fun _ _ _ h => h
                    case hwba42 => rfl
                    case hyba42 => first | (go_simp; done) | (go_simp; with_reducible rfl)
                    simp only [Act.put, List.setIfInBounds_toArray, List.set_cons_zero, List.set_cons_succ]
                    refine' wpAnyH_take (i := 43) (oi := _) (v := .bool true) ?hiba43 (by kernel_rfl) (by kernel_rfl) (by kernel_rfl) ?hqba43 (Or.inl ⟨?hwba43, fun w hSw => ?hyba43⟩) hHeld ?hkba43
                    case hiba43 => (simp only [List.getElem?_toArray, List.getElem?_cons_succ, List.getElem?_cons_zero]; rfl)
                    case hqba43 => exact fun _ _ _ h => h
                    case hwba43 => rfl
                    case hyba43 => first | (go_simp; done) | (go_simp; with_reducible rfl)
                    simp only [Act.put, List.setIfInBounds_toArray, List.set_cons_zero, List.set_cons_succ]
                    refine wpAnyH_done (by kernel_rfl) ?_ _
                    go_wp2
                    go_ret
                    exact ⟨rfl, (hCF.tr hC1112).tr hC14⟩
                  · have r1 := run_of hLm hokm xa xb hx.2.1 hx.2.2.1 xn true (by rw [fileOf, if_neg (fun h => hs h.2), fileOf, if_pos ⟨rfl, rfl, rfl⟩]; rfl) (fun h => by cases h)
                    clear hLm hokm
                    by_cases hs2 : xa = ya
                    · subst hs2
                      have hs3 : (xb == yb) = false := beq_eq_false_iff_ne.2 (fun e => hs ⟨rfl, e.symm⟩)
                      clear hs
                      have bq1 : (yn == yn) = true := beq_self_eq_true yn
                      have bq2 : (xn == xn) = true := beq_self_eq_true xn
                      have bq3 : (DD == DD) = true := beq_self_eq_true DD
                      go_wp2_with fail
                      refine r1.mono ?_
                      clear r1
                      rintro e w11 ⟨rfl, hC11⟩
                      replace x0 := hC11.cell x0 id
                      replace x1 := hC11.cell x1 id
                      replace x2 := hC11.cell x2 id
                      replace x3 := hC11.cell x3 id
                      replace y0 := hC11.cell y0 id
                      replace y1 := hC11.cell y1 id
                      replace y2 := hC11.cell y2 id
                      replace y3 := hC11.cell y3 id
                      go_wp2_with fail
                      refine (r2 _ hC11).mono ?_
                      clear r2
                      rintro e w12 ⟨rfl, hC12⟩
                      replace x0 := hC12.cell x0 id
                      replace x1 := hC12.cell x1 id
                      replace x2 := hC12.cell x2 id
                      replace x3 := hC12.cell x3 id
                      replace y0 := hC12.cell y0 id
                      replace y1 := hC12.cell y1 id
                      replace y2 := hC12.cell y2 id
                      replace y3 := hC12.cell y3 id
                      have hC1112 := hC11.tr hC12
                      have e1 : ∀ w', Chg (fun _ => False) w12 w' → Calls Try.prog 20 #[.pointer (some ⟨lb2, 0, none⟩), .int .i64 xa] w' (fun e w'' => e = .returned (.int .i64 DD) ∧ Chg (fun _ => False) w12 w'') := fun w' h => (d1 w' (hC1112.tr h)).mono (fun e w'' hh => ⟨hh.1, h.tr hh.2⟩)
                      have e2 : ∀ w', Chg (fun _ => False) w12 w' → Calls Try.prog 20 #[.pointer (some ⟨lb, 0, none⟩), .int .i64 xa] w' (fun e w'' => e = .returned (.int .i64 DD) ∧ Chg (fun _ => False) w12 w'') := fun w' h => (d2 w' (hC1112.tr h)).mono (fun e w'' hh => ⟨hh.1, h.tr hh.2⟩)
                      clear d1 d2
                      have KP : ∀ w', Chg (fun _ => False) w12 w' → (Chg (fun _ => False) w12 w' ∧ w'.cell? ⟨W.heap.size, 1, none⟩ = some (.int .i64 xa) ∧ w'.cell? ⟨W.heap.size, 3, none⟩ = some (.int .i64 xn) ∧ w'.cell? ⟨W.heap.size + 1, 3, none⟩ = some (.int .i64 yn)) := fun w' h => ⟨h, h.cell x1 id, h.cell x3 id, h.cell y3 id⟩
                      have HKP := Lib.hid KP
                      clear KP
                      go_wp2_with fail
                      refine wp_region_held_drew (S := fun w' => Chg (fun _ => False) w12 w' ∧ w'.cell? ⟨W.heap.size, 1, none⟩ = some (.int .i64 xa) ∧ w'.cell? ⟨W.heap.size, 3, none⟩ = some (.int .i64 xn) ∧ w'.cell? ⟨W.heap.size + 1, 3, none⟩ = some (.int .i64 yn)) (by kernel_rfl) (HKP.out _ ((Chg.refl _ _).drew)) (fun hHeld => ?_)
                      refine' wpAnyH_take (i := 0) (oi := _) (v := .bool true) ?hibb0 (by kernel_rfl) (by kernel_rfl) (by kernel_rfl) ?hqbb0 (Or.inl ⟨?hwbb0, fun w hSw => ?hybb0⟩) hHeld ?hkbb0
                      case hibb0 => (simp only [List.getElem?_toArray, List.getElem?_cons_zero]; rfl)
                      case hqbb0 => exact fun _ _ _ h => h
                      case hwbb0 => rfl
                      case hybb0 => first | (go_simp; done) | (go_simp; with_reducible rfl)
                      simp only [Act.put, List.setIfInBounds_toArray, List.set_cons_zero, List.set_cons_succ]
                      refine' wpAnyH_take (i := 1) (oi := _) (v := .bool true) ?hibb1 (by kernel_rfl) (by kernel_rfl) (by kernel_rfl) ?hqbb1 (Or.inl ⟨?hwbb1, fun w hSw => ?hybb1⟩) hHeld ?hkbb1
                      case hibb1 => (simp only [List.getElem?_toArray, List.getElem?_cons_succ, List.getElem?_cons_zero]; rfl)
                      case hqbb1 => exact fun _ _ _ h => h
                      case hwbb1 => rfl
                      case hybb1 => first | (go_simp; done) | (go_simp; with_reducible rfl)
                      simp only [Act.put, List.setIfInBounds_toArray, List.set_cons_zero, List.set_cons_succ]
                      refine' wpAnyH_take (i := 2) (oi := _) (v := .bool true) ?hibb2 (by kernel_rfl) (by kernel_rfl) (by kernel_rfl) ?hqbb2 (Or.inl ⟨?hwbb2, fun w hSw => ?hybb2⟩) hHeld ?hkbb2
                      case hibb2 => (simp only [List.getElem?_toArray, List.getElem?_cons_succ, List.getElem?_cons_zero]; rfl)
                      case hqbb2 => exact fun _ _ _ h => h
                      case hwbb2 => rfl
                      case hybb2 => first | (go_simp; done) | (go_simp; with_reducible rfl)
                      simp only [Act.put, List.setIfInBounds_toArray, List.set_cons_zero, List.set_cons_succ]
                      refine' wpAnyH_take (i := 3) (oi := _) (v := .bool true) ?hibb3 (by kernel_rfl) (by kernel_rfl) (by kernel_rfl) ?hqbb3 (Or.inl ⟨?hwbb3, fun w hSw => ?hybb3⟩) hHeld ?hkbb3
                      case hibb3 => (simp only [List.getElem?_toArray, List.getElem?_cons_succ, List.getElem?_cons_zero]; rfl)
                      case hqbb3 => exact fun _ _ _ h => h
                      case hwbb3 => rfl
                      case hybb3 => first | (go_simp; done) | (go_simp; with_reducible rfl)
                      simp only [Act.put, List.setIfInBounds_toArray, List.set_cons_zero, List.set_cons_succ]
                      refine' wpAnyH_take (i := 4) (oi := _) (v := .bool true) ?hibb4 (by kernel_rfl) (by kernel_rfl) (by kernel_rfl) ?hqbb4 (Or.inl ⟨?hwbb4, fun w hSw => ?hybb4⟩) hHeld ?hkbb4
                      case hibb4 => (simp only [List.getElem?_toArray, List.getElem?_cons_succ, List.getElem?_cons_zero]; rfl)
                      case hqbb4 => exact fun _ _ _ h => h
                      case hwbb4 => rfl
                      case hybb4 => first | (go_simp; done) | (go_simp; with_reducible rfl)
                      simp only [Act.put, List.setIfInBounds_toArray, List.set_cons_zero, List.set_cons_succ]
                      refine' wpAnyH_take (i := 5) (oi := _) (v := .bool true) ?hibb5 (by kernel_rfl) (by kernel_rfl) (by kernel_rfl) ?hqbb5 (Or.inl ⟨?hwbb5, fun w hSw => ?hybb5⟩) hHeld ?hkbb5
                      case hibb5 => (simp only [List.getElem?_toArray, List.getElem?_cons_succ, List.getElem?_cons_zero]; rfl)
                      case hqbb5 => exact fun _ _ _ h => h
                      case hwbb5 => rfl
                      case hybb5 => first | (go_simp; done) | (go_simp; with_reducible rfl)
                      simp only [Act.put, List.setIfInBounds_toArray, List.set_cons_zero, List.set_cons_succ]
                      refine' wpAnyH_take (i := 6) (oi := _) (v := .bool true) ?hibb6 (by kernel_rfl) (by kernel_rfl) (by kernel_rfl) ?hqbb6 (Or.inl ⟨?hwbb6, fun w hSw => ?hybb6⟩) hHeld ?hkbb6
                      case hibb6 => (simp only [List.getElem?_toArray, List.getElem?_cons_succ, List.getElem?_cons_zero]; rfl)
                      case hqbb6 => exact fun _ _ _ h => h
                      case hwbb6 => rfl
                      case hybb6 => first | (go_simp; done) | (go_simp; with_reducible rfl)
                      simp only [Act.put, List.setIfInBounds_toArray, List.set_cons_zero, List.set_cons_succ]
                      refine' wpAnyH_take (i := 7) (oi := _) (v := .bool true) ?hibb7 (by kernel_rfl) (by kernel_rfl) (by kernel_rfl) ?hqbb7 (Or.inl ⟨?hwbb7, fun w hSw => ?hybb7⟩) hHeld ?hkbb7
                      case hibb7 => (simp only [List.getElem?_toArray, List.getElem?_cons_succ, List.getElem?_cons_zero]; rfl)
                      case hqbb7 => exact fun _ _ _ h => h
                      case hwbb7 => rfl
                      case hybb7 => first | (go_simp; done) | (go_simp; with_reducible rfl)
                      simp only [Act.put, List.setIfInBounds_toArray, List.set_cons_zero, List.set_cons_succ]
                      refine' wpAnyH_take (i := 8) (oi := _) (v := .int .i64 yn) ?hibb8 (by kernel_rfl) (by kernel_rfl) (by kernel_rfl) ?hqbb8 (Or.inl ⟨?hwbb8, fun w hSw => ?hybb8⟩) hHeld ?hkbb8
                      case hibb8 => (simp only [List.getElem?_toArray, List.getElem?_cons_succ, List.getElem?_cons_zero]; rfl)
                      case hqbb8 => exact fun _ _ _ h => h
                      case hwbb8 => rfl
                      case hybb8 => first | (go_simp; done) | (go_simp; with_reducible rfl)
                      simp only [Act.put, List.setIfInBounds_toArray, List.set_cons_zero, List.set_cons_succ]
                      refine' wpAnyH_take (i := 9) (oi := _) (v := .pointer (some ⟨W.heap.size + 1, 3, none⟩)) ?hibb9 (by kernel_rfl) (by kernel_rfl) (by kernel_rfl) ?hqbb9 (Or.inl ⟨?hwbb9, fun w hSw => ?hybb9⟩) hHeld ?hkbb9
                      case hibb9 => (simp only [List.getElem?_toArray, List.getElem?_cons_succ, List.getElem?_cons_zero]; rfl)
                      case hqbb9 => exact fun _ _ _ h => h
                      case hwbb9 => rfl
                      case hybb9 => first | (go_simp; done) | (go_simp; with_reducible rfl)
                      simp only [Act.put, List.setIfInBounds_toArray, List.set_cons_zero, List.set_cons_succ]
                      refine' wpAnyH_take (i := 10) (oi := _) (v := .int .i64 yn) ?hibb10 (by kernel_rfl) (by kernel_rfl) (by kernel_rfl) ?hqbb10 (Or.inl ⟨?hwbb10, fun w hSw => ?hybb10⟩) hHeld ?hkbb10
                      case hibb10 => (simp only [List.getElem?_toArray, List.getElem?_cons_succ, List.getElem?_cons_zero]; rfl)
                      case hqbb10 => exact fun _ _ _ h => h
                      case hwbb10 => rfl
                      case hybb10 => first | (go_simp; done) | (go_simp; with_reducible rfl)
                      simp only [Act.put, List.setIfInBounds_toArray, List.set_cons_zero, List.set_cons_succ]
                      refine' wpAnyH_take (i := 11) (oi := _) (v := .bool true) ?hibb11 (by kernel_rfl) (by kernel_rfl) (by kernel_rfl) ?hqbb11 (Or.inl ⟨?hwbb11, fun w hSw => ?hybb11⟩) hHeld ?hkbb11
                      case hibb11 => (simp only [List.getElem?_toArray, List.getElem?_cons_succ, List.getElem?_cons_zero]; rfl)
                      case hqbb11 => exact fun _ _ _ h => h
                      case hwbb11 => rfl
                      case hybb11 => first | (go_simp; done) | (go_simp; with_reducible rfl)
                      simp only [Act.put, List.setIfInBounds_toArray, List.set_cons_zero, List.set_cons_succ]
                      refine' wpAnyH_take (i := 12) (oi := _) (v := .bool true) ?hibb12 (by kernel_rfl) (by kernel_rfl) (by kernel_rfl) ?hqbb12 (Or.inl ⟨?hwbb12, fun w hSw => ?hybb12⟩) hHeld ?hkbb12
                      case hibb12 => (simp only [List.getElem?_toArray, List.getElem?_cons_succ, List.getElem?_cons_zero]; rfl)
                      case hqbb12 => exact fun _ _ _ h => h
                      case hwbb12 => rfl
                      case hybb12 => first | (go_simp; done) | (go_simp; with_reducible rfl)
                      simp only [Act.put, List.setIfInBounds_toArray, List.set_cons_zero, List.set_cons_succ]
                      refine' wpAnyH_take (i := 13) (oi := _) (v := .bool true) ?hibb13 (by kernel_rfl) (by kernel_rfl) (by kernel_rfl) ?hqbb13 (Or.inl ⟨?hwbb13, fun w hSw => ?hybb13⟩) hHeld ?hkbb13
                      case hibb13 => (simp only [List.getElem?_toArray, List.getElem?_cons_succ, List.getElem?_cons_zero]; rfl)
                      case hqbb13 => exact fun _ _ _ h => h
                      case hwbb13 => rfl
                      case hybb13 => first | (go_simp; done) | (go_simp; with_reducible rfl)
                      simp only [Act.put, List.setIfInBounds_toArray, List.set_cons_zero, List.set_cons_succ]
                      refine' wpAnyH_take (i := 14) (oi := _) (v := .bool false) ?hibb14 (by kernel_rfl) (by kernel_rfl) (by kernel_rfl) ?hqbb14 (Or.inl ⟨?hwbb14, fun w hSw => ?hybb14⟩) hHeld ?hkbb14
                      case hibb14 => (simp only [List.getElem?_toArray, List.getElem?_cons_succ, List.getElem?_cons_zero]; rfl)
                      case hqbb14 => exact fun _ _ _ h => h
                      case hwbb14 => rfl
                      case hybb14 => first | (go_simp; done) | (go_simp; with_reducible rfl)
                      simp only [Act.put, List.setIfInBounds_toArray, List.set_cons_zero, List.set_cons_succ]
                      refine' wpAnyH_take (i := 15) (oi := _) (v := .bool false) ?hibb15 (by kernel_rfl) (by kernel_rfl) (by kernel_rfl) ?hqbb15 (Or.inl ⟨?hwbb15, fun w hSw => ?hybb15⟩) hHeld ?hkbb15
                      case hibb15 => (simp only [List.getElem?_toArray, List.getElem?_cons_succ, List.getElem?_cons_zero]; rfl)
                      case hqbb15 => exact fun _ _ _ h => h
                      case hwbb15 => rfl
                      case hybb15 => first | (go_simp; done) | (go_simp; with_reducible rfl)
                      simp only [Act.put, List.setIfInBounds_toArray, List.set_cons_zero, List.set_cons_succ]
                      refine' wpAnyH_take (i := 16) (oi := _) (v := undef) ?hibb16 (by kernel_rfl) (by kernel_rfl) (by kernel_rfl) ?hqbb16 (Or.inr ⟨?hwbb16, rfl⟩) hHeld ?hkbb16
                      case hibb16 => (simp only [List.getElem?_toArray, List.getElem?_cons_succ, List.getElem?_cons_zero]; rfl)
                      case hqbb16 => exact fun _ _ _ h => h
                      case hwbb16 => rfl
                      simp only [Act.put, List.setIfInBounds_toArray, List.set_cons_zero, List.set_cons_succ]
                      refine' wpAnyH_take (i := 17) (oi := _) (v := undef) ?hibb17 (by kernel_rfl) (by kernel_rfl) (by kernel_rfl) ?hqbb17 (Or.inr ⟨?hwbb17, rfl⟩) hHeld ?hkbb17
                      case hibb17 => (simp only [List.getElem?_toArray, List.getElem?_cons_succ, List.getElem?_cons_zero]; rfl)
                      case hqbb17 => exact fun _ _ _ h => h
                      case hwbb17 => rfl
                      simp only [Act.put, List.setIfInBounds_toArray, List.set_cons_zero, List.set_cons_succ]
                      refine' wpAnyH_take (i := 18) (oi := _) (v := undef) ?hibb18 (by kernel_rfl) (by kernel_rfl) (by kernel_rfl) ?hqbb18 (Or.inr ⟨?hwbb18, rfl⟩) hHeld ?hkbb18
                      case hibb18 => (simp only [List.getElem?_toArray, List.getElem?_cons_succ, List.getElem?_cons_zero]; rfl)
                      case hqbb18 => exact fun _ _ _ h => h
                      case hwbb18 => rfl
                      simp only [Act.put, List.setIfInBounds_toArray, List.set_cons_zero, List.set_cons_succ]
                      refine' wpAnyH_take (i := 19) (oi := _) (v := undef) ?hibb19 (by kernel_rfl) (by kernel_rfl) (by kernel_rfl) ?hqbb19 (Or.inr ⟨?hwbb19, rfl⟩) hHeld ?hkbb19
                      case hibb19 => (simp only [List.getElem?_toArray, List.getElem?_cons_succ, List.getElem?_cons_zero]; rfl)
                      case hqbb19 => exact fun _ _ _ h => h
                      case hwbb19 => rfl
                      simp only [Act.put, List.setIfInBounds_toArray, List.set_cons_zero, List.set_cons_succ]
                      refine' wpAnyH_take (i := 20) (oi := _) (v := .bool false) ?hibb20 (by kernel_rfl) (by kernel_rfl) (by kernel_rfl) ?hqbb20 (Or.inl ⟨?hwbb20, fun w hSw => ?hybb20⟩) hHeld ?hkbb20
                      case hibb20 => (simp only [List.getElem?_toArray, List.getElem?_cons_succ, List.getElem?_cons_zero]; rfl)
                      case hqbb20 => exact fun _ _ _ h => h
                      case hwbb20 => rfl
                      case hybb20 => first | (go_simp; done) | (go_simp; with_reducible rfl)
                      simp only [Act.put, List.setIfInBounds_toArray, List.set_cons_zero, List.set_cons_succ]
                      refine' wpAnyH_take (i := 21) (oi := _) (v := .bool false) ?hibb21 (by kernel_rfl) (by kernel_rfl) (by kernel_rfl) ?hqbb21 (Or.inl ⟨?hwbb21, fun w hSw => ?hybb21⟩) hHeld ?hkbb21
                      case hibb21 => (simp only [List.getElem?_toArray, List.getElem?_cons_succ, List.getElem?_cons_zero]; rfl)
                      case hqbb21 => exact fun _ _ _ h => h
                      case hwbb21 => rfl
                      case hybb21 => first | (go_simp; done) | (go_simp; with_reducible rfl)
                      simp only [Act.put, List.setIfInBounds_toArray, List.set_cons_zero, List.set_cons_succ]
                      refine' wpAnyH_take (i := 22) (oi := _) (v := .bool false) ?hibb22 (by kernel_rfl) (by kernel_rfl) (by kernel_rfl) ?hqbb22 (Or.inl ⟨?hwbb22, fun w hSw => ?hybb22⟩) hHeld ?hkbb22
                      case hibb22 => (simp only [List.getElem?_toArray, List.getElem?_cons_succ, List.getElem?_cons_zero]; rfl)
                      case hqbb22 => exact fun _ _ _ h => h
                      case hwbb22 => rfl
                      case hybb22 => first | (go_simp; done) | (go_simp; with_reducible rfl)
                      simp only [Act.put, List.setIfInBounds_toArray, List.set_cons_zero, List.set_cons_succ]
                      refine' wpAnyH_take (i := 23) (oi := _) (v := .bool true) ?hibb23 (by kernel_rfl) (by kernel_rfl) (by kernel_rfl) ?hqbb23 (Or.inl ⟨?hwbb23, fun w hSw => ?hybb23⟩) hHeld ?hkbb23
                      case hibb23 => (simp only [List.getElem?_toArray, List.getElem?_cons_succ, List.getElem?_cons_zero]; rfl)
                      case hqbb23 => exact fun _ _ _ h => h
                      case hwbb23 => rfl
                      case hybb23 => first | (go_simp; done) | (go_simp; with_reducible rfl)
                      simp only [Act.put, List.setIfInBounds_toArray, List.set_cons_zero, List.set_cons_succ]
                      refine' wpAnyH_take (i := 24) (oi := _) (v := .bool true) ?hibb24 (by kernel_rfl) (by kernel_rfl) (by kernel_rfl) ?hqbb24 (Or.inl ⟨?hwbb24, fun w hSw => ?hybb24⟩) hHeld ?hkbb24
                      case hibb24 => (simp only [List.getElem?_toArray, List.getElem?_cons_succ, List.getElem?_cons_zero]; rfl)
                      case hqbb24 => exact fun _ _ _ h => h
                      case hwbb24 => rfl
                      case hybb24 => first | (go_simp; done) | (go_simp; with_reducible rfl)
                      simp only [Act.put, List.setIfInBounds_toArray, List.set_cons_zero, List.set_cons_succ]
                      refine' wpAnyH_take (i := 25) (oi := _) (v := .int .i64 xn) ?hibb25 (by kernel_rfl) (by kernel_rfl) (by kernel_rfl) ?hqbb25 (Or.inl ⟨?hwbb25, fun w hSw => ?hybb25⟩) hHeld ?hkbb25
                      case hibb25 => (simp only [List.getElem?_toArray, List.getElem?_cons_succ, List.getElem?_cons_zero]; rfl)
                      case hqbb25 => exact fun _ _ _ h => h
                      case hwbb25 => rfl
                      case hybb25 => first | (go_simp; done) | (go_simp; with_reducible rfl)
                      simp only [Act.put, List.setIfInBounds_toArray, List.set_cons_zero, List.set_cons_succ]
                      refine' wpAnyH_take (i := 26) (oi := _) (v := .pointer (some ⟨W.heap.size, 3, none⟩)) ?hibb26 (by kernel_rfl) (by kernel_rfl) (by kernel_rfl) ?hqbb26 (Or.inl ⟨?hwbb26, fun w hSw => ?hybb26⟩) hHeld ?hkbb26
                      case hibb26 => (simp only [List.getElem?_toArray, List.getElem?_cons_succ, List.getElem?_cons_zero]; rfl)
                      case hqbb26 => exact fun _ _ _ h => h
                      case hwbb26 => rfl
                      case hybb26 => first | (go_simp; done) | (go_simp; with_reducible rfl)
                      simp only [Act.put, List.setIfInBounds_toArray, List.set_cons_zero, List.set_cons_succ]
                      refine' wpAnyH_take (i := 27) (oi := _) (v := .int .i64 xn) ?hibb27 (by kernel_rfl) (by kernel_rfl) (by kernel_rfl) ?hqbb27 (Or.inl ⟨?hwbb27, fun w hSw => ?hybb27⟩) hHeld ?hkbb27
                      case hibb27 => (simp only [List.getElem?_toArray, List.getElem?_cons_succ, List.getElem?_cons_zero]; rfl)
                      case hqbb27 => exact fun _ _ _ h => h
                      case hwbb27 => rfl
                      case hybb27 => first | (go_simp; done) | (go_simp; with_reducible rfl)
                      simp only [Act.put, List.setIfInBounds_toArray, List.set_cons_zero, List.set_cons_succ]
                      refine' wpAnyH_take (i := 28) (oi := _) (v := .bool true) ?hibb28 (by kernel_rfl) (by kernel_rfl) (by kernel_rfl) ?hqbb28 (Or.inl ⟨?hwbb28, fun w hSw => ?hybb28⟩) hHeld ?hkbb28
                      case hibb28 => (simp only [List.getElem?_toArray, List.getElem?_cons_succ, List.getElem?_cons_zero]; rfl)
                      case hqbb28 => exact fun _ _ _ h => h
                      case hwbb28 => rfl
                      case hybb28 => first | (go_simp; done) | (go_simp; with_reducible rfl)
                      simp only [Act.put, List.setIfInBounds_toArray, List.set_cons_zero, List.set_cons_succ]
                      refine' wpAnyH_take (i := 29) (oi := _) (v := .bool true) ?hibb29 (by kernel_rfl) (by kernel_rfl) (by kernel_rfl) ?hqbb29 (Or.inl ⟨?hwbb29, fun w hSw => ?hybb29⟩) hHeld ?hkbb29
                      case hibb29 => (simp only [List.getElem?_toArray, List.getElem?_cons_succ, List.getElem?_cons_zero]; rfl)
                      case hqbb29 => exact fun _ _ _ h => h
                      case hwbb29 => rfl
                      case hybb29 => first | (go_simp; done) | (go_simp; with_reducible rfl)
                      simp only [Act.put, List.setIfInBounds_toArray, List.set_cons_zero, List.set_cons_succ]
                      refine' wpAnyH_take (i := 30) (oi := _) (v := .bool true) ?hibb30 (by kernel_rfl) (by kernel_rfl) (by kernel_rfl) ?hqbb30 (Or.inl ⟨?hwbb30, fun w hSw => ?hybb30⟩) hHeld ?hkbb30
                      case hibb30 => (simp only [List.getElem?_toArray, List.getElem?_cons_succ, List.getElem?_cons_zero]; rfl)
                      case hqbb30 => exact fun _ _ _ h => h
                      case hwbb30 => rfl
                      case hybb30 => first | (go_simp; done) | (go_simp; with_reducible rfl)
                      simp only [Act.put, List.setIfInBounds_toArray, List.set_cons_zero, List.set_cons_succ]
                      refine' wpAnyH_take (i := 31) (oi := _) (v := .bool true) ?hibb31 (by kernel_rfl) (by kernel_rfl) (by kernel_rfl) ?hqbb31 (Or.inl ⟨?hwbb31, fun w hSw => ?hybb31⟩) hHeld ?hkbb31
                      case hibb31 => (simp only [List.getElem?_toArray, List.getElem?_cons_succ, List.getElem?_cons_zero]; rfl)
                      case hqbb31 => exact fun _ _ _ h => h
                      case hwbb31 => rfl
                      case hybb31 => first | (go_simp; done) | (go_simp; with_reducible rfl)
                      simp only [Act.put, List.setIfInBounds_toArray, List.set_cons_zero, List.set_cons_succ]
                      refine' wpAnyH_take (i := 32) (oi := _) (v := .bool true) ?hibb32 (by kernel_rfl) (by kernel_rfl) (by kernel_rfl) ?hqbb32 (Or.inl ⟨?hwbb32, fun w hSw => ?hybb32⟩) hHeld ?hkbb32
                      case hibb32 => (simp only [List.getElem?_toArray, List.getElem?_cons_succ, List.getElem?_cons_zero]; rfl)
                      case hqbb32 => exact fun _ _ _ h => h
                      case hwbb32 => rfl
                      case hybb32 => first | (go_simp; done) | (go_simp; with_reducible rfl)
                      simp only [Act.put, List.setIfInBounds_toArray, List.set_cons_zero, List.set_cons_succ]
                      refine' wpAnyH_take (i := 33) (oi := _) (v := .pointer (some ⟨lb2, 0, none⟩)) ?hibb33 (by kernel_rfl) (by kernel_rfl) (by kernel_rfl) ?hqbb33 (Or.inl ⟨?hwbb33, fun w hSw => ?hybb33⟩) hHeld ?hkbb33
                      case hibb33 => (simp only [List.getElem?_toArray, List.getElem?_cons_succ, List.getElem?_cons_zero]; rfl)
                      case hqbb33 => exact fun _ _ _ h => h
                      case hwbb33 => rfl
                      case hybb33 => first | (go_simp; done) | (go_simp; with_reducible rfl)
                      simp only [Act.put, List.setIfInBounds_toArray, List.set_cons_zero, List.set_cons_succ]
                      refine' wpAnyH_take (i := 34) (oi := _) (v := .pointer (some ⟨W.heap.size, 1, none⟩)) ?hibb34 (by kernel_rfl) (by kernel_rfl) (by kernel_rfl) ?hqbb34 (Or.inl ⟨?hwbb34, fun w hSw => ?hybb34⟩) hHeld ?hkbb34
                      case hibb34 => (simp only [List.getElem?_toArray, List.getElem?_cons_succ, List.getElem?_cons_zero]; rfl)
                      case hqbb34 => exact fun _ _ _ h => h
                      case hwbb34 => rfl
                      case hybb34 => first | (go_simp; done) | (go_simp; with_reducible rfl)
                      simp only [Act.put, List.setIfInBounds_toArray, List.set_cons_zero, List.set_cons_succ]
                      refine' wpAnyH_take (i := 35) (oi := _) (v := .int .i64 xa) ?hibb35 (by kernel_rfl) (by kernel_rfl) (by kernel_rfl) ?hqbb35 (Or.inl ⟨?hwbb35, fun w hSw => ?hybb35⟩) hHeld ?hkbb35
                      case hibb35 => (simp only [List.getElem?_toArray, List.getElem?_cons_succ, List.getElem?_cons_zero]; rfl)
                      case hqbb35 => exact fun _ _ _ h => h
                      case hwbb35 => rfl
                      case hybb35 => first | (go_simp; done) | (go_simp; with_reducible rfl)
                      simp only [Act.put, List.setIfInBounds_toArray, List.set_cons_zero, List.set_cons_succ]
                      refine' wpAnyH_take (i := 37) (oi := _) (v := .pointer (some ⟨lb, 0, none⟩)) ?hibb37 (by kernel_rfl) (by kernel_rfl) (by kernel_rfl) ?hqbb37 (Or.inl ⟨?hwbb37, fun w hSw => ?hybb37⟩) hHeld ?hkbb37
                      case hibb37 => (simp only [List.getElem?_toArray, List.getElem?_cons_succ, List.getElem?_cons_zero]; rfl)
                      case hqbb37 => exact fun _ _ _ h => h
                      case hwbb37 => rfl
                      case hybb37 => first | (go_simp; done) | (go_simp; with_reducible rfl)
                      simp only [Act.put, List.setIfInBounds_toArray, List.set_cons_zero, List.set_cons_succ]
                      refine' wpAnyH_take (i := 38) (oi := _) (v := .pointer (some ⟨W.heap.size, 1, none⟩)) ?hibb38 (by kernel_rfl) (by kernel_rfl) (by kernel_rfl) ?hqbb38 (Or.inl ⟨?hwbb38, fun w hSw => ?hybb38⟩) hHeld ?hkbb38
                      case hibb38 => (simp only [List.getElem?_toArray, List.getElem?_cons_succ, List.getElem?_cons_zero]; rfl)
                      case hqbb38 => exact fun _ _ _ h => h
                      case hwbb38 => rfl
                      case hybb38 => first | (go_simp; done) | (go_simp; with_reducible rfl)
                      simp only [Act.put, List.setIfInBounds_toArray, List.set_cons_zero, List.set_cons_succ]
                      refine' wpAnyH_take (i := 39) (oi := _) (v := .int .i64 xa) ?hibb39 (by kernel_rfl) (by kernel_rfl) (by kernel_rfl) ?hqbb39 (Or.inl ⟨?hwbb39, fun w hSw => ?hybb39⟩) hHeld ?hkbb39
                      case hibb39 => (simp only [List.getElem?_toArray, List.getElem?_cons_succ, List.getElem?_cons_zero]; rfl)
                      case hqbb39 => exact fun _ _ _ h => h
                      case hwbb39 => rfl
                      case hybb39 => first | (go_simp; done) | (go_simp; with_reducible rfl)
                      simp only [Act.put, List.setIfInBounds_toArray, List.set_cons_zero, List.set_cons_succ]
                      refine wpAnyH_ready (rs := [36]) (by kernel_rfl) (by simp) ?_
                      refine AllReadyH.cons rfl (fun K hK => ?_) AllReadyH.nil
                      go_simp
                      go_at_call 20
                      refine (e1 _ ((Chg.refl _ _).drew)).mono ?_
                      rintro e w13 ⟨rfl, hC13⟩
                      refine hK.out _ _ (HKP.out _ hC13) (fun hHeld => ?_)
                      clear hK K
                      refine wpAnyH_ready (rs := [40]) (by kernel_rfl) (by simp) ?_
                      refine AllReadyH.cons rfl (fun K hK => ?_) AllReadyH.nil
                      go_simp
                      go_at_call 20
                      refine (e2 _ hC13).mono ?_
                      rintro e w14 ⟨rfl, hC14⟩
                      refine hK.out _ _ (HKP.out _ hC14) (fun hHeld => ?_)
                      clear hK K
                      refine' wpAnyH_take (i := 41) (oi := _) (v := .bool true) ?hibb41 (by kernel_rfl) (by kernel_rfl) (by kernel_rfl) ?hqbb41 (Or.inl ⟨?hwbb41, fun w hSw => ?hybb41⟩) hHeld ?hkbb41
                      case hibb41 => (simp only [List.getElem?_toArray, List.getElem?_cons_succ, List.getElem?_cons_zero]; rfl)
                      case hqbb41 => exact fun _ _ _ h => h
                      case hwbb41 => rfl
                      case hybb41 => first | (go_simp; done) | (go_simp; with_reducible rfl)
                      simp only [Act.put, List.setIfInBounds_toArray, List.set_cons_zero, List.set_cons_succ]
                      refine' wpAnyH_take (i := 42) (oi := _) (v := .bool true) ?hibb42 (by kernel_rfl) (by kernel_rfl) (by kernel_rfl) ?hqbb42 (Or.inl ⟨?hwbb42, fun w hSw => ?hybb42⟩) hHeld ?hkbb42
                      case hibb42 => (simp only [List.getElem?_toArray, List.getElem?_cons_succ, List.getElem?_cons_zero]; rfl)
                      case hqbb42 => exact fun _ _ _ h => h
                      case hwbb42 => rfl
                      case hybb42 => first | (go_simp; done) | (go_simp; with_reducible rfl)
                      simp only [Act.put, List.setIfInBounds_toArray, List.set_cons_zero, List.set_cons_succ]
                      refine' wpAnyH_take (i := 43) (oi := _) (v := .bool true) ?hibb43 (by kernel_rfl) (by kernel_rfl) (by kernel_rfl) ?hqbb43 (Or.inl ⟨?hwbb43, fun w hSw => ?hybb43⟩) hHeld ?hkbb43
                      case hibb43 => (simp only [List.getElem?_toArray, List.getElem?_cons_succ, List.getElem?_cons_zero]; rfl)
                      case hqbb43 => exact fun _ _ _ h => h
                      case hwbb43 => rfl
                      case hybb43 => first | (go_simp; done) | (go_simp; with_reducible rfl)
                      simp only [Act.put, List.setIfInBounds_toArray, List.set_cons_zero, List.set_cons_succ]
                      refine wpAnyH_done (by kernel_rfl) ?_ _
                      go_wp2
                      go_ret
                      exact ⟨rfl, (hCF.tr hC1112).tr hC14⟩
                    · have hs3 : (xa == ya) = false := beq_eq_false_iff_ne.2 hs2
                      clear hs hs2
                      have bq1 : (yn == yn) = true := beq_self_eq_true yn
                      have bq2 : (xn == xn) = true := beq_self_eq_true xn
                      have bq3 : (DD == DD) = true := beq_self_eq_true DD
                      go_wp2_with fail
                      refine r1.mono ?_
                      clear r1
                      rintro e w11 ⟨rfl, hC11⟩
                      replace x0 := hC11.cell x0 id
                      replace x1 := hC11.cell x1 id
                      replace x2 := hC11.cell x2 id
                      replace x3 := hC11.cell x3 id
                      replace y0 := hC11.cell y0 id
                      replace y1 := hC11.cell y1 id
                      replace y2 := hC11.cell y2 id
                      replace y3 := hC11.cell y3 id
                      go_wp2_with fail
                      refine (r2 _ hC11).mono ?_
                      clear r2
                      rintro e w12 ⟨rfl, hC12⟩
                      replace x0 := hC12.cell x0 id
                      replace x1 := hC12.cell x1 id
                      replace x2 := hC12.cell x2 id
                      replace x3 := hC12.cell x3 id
                      replace y0 := hC12.cell y0 id
                      replace y1 := hC12.cell y1 id
                      replace y2 := hC12.cell y2 id
                      replace y3 := hC12.cell y3 id
                      have hC1112 := hC11.tr hC12
                      have e1 : ∀ w', Chg (fun _ => False) w12 w' → Calls Try.prog 20 #[.pointer (some ⟨lb2, 0, none⟩), .int .i64 xa] w' (fun e w'' => e = .returned (.int .i64 DD) ∧ Chg (fun _ => False) w12 w'') := fun w' h => (d1 w' (hC1112.tr h)).mono (fun e w'' hh => ⟨hh.1, h.tr hh.2⟩)
                      have e2 : ∀ w', Chg (fun _ => False) w12 w' → Calls Try.prog 20 #[.pointer (some ⟨lb, 0, none⟩), .int .i64 xa] w' (fun e w'' => e = .returned (.int .i64 DD) ∧ Chg (fun _ => False) w12 w'') := fun w' h => (d2 w' (hC1112.tr h)).mono (fun e w'' hh => ⟨hh.1, h.tr hh.2⟩)
                      clear d1 d2
                      have KP : ∀ w', Chg (fun _ => False) w12 w' → (Chg (fun _ => False) w12 w' ∧ w'.cell? ⟨W.heap.size, 1, none⟩ = some (.int .i64 xa) ∧ w'.cell? ⟨W.heap.size, 3, none⟩ = some (.int .i64 xn) ∧ w'.cell? ⟨W.heap.size + 1, 3, none⟩ = some (.int .i64 yn)) := fun w' h => ⟨h, h.cell x1 id, h.cell x3 id, h.cell y3 id⟩
                      have HKP := Lib.hid KP
                      clear KP
                      go_wp2_with fail
                      refine wp_region_held_drew (S := fun w' => Chg (fun _ => False) w12 w' ∧ w'.cell? ⟨W.heap.size, 1, none⟩ = some (.int .i64 xa) ∧ w'.cell? ⟨W.heap.size, 3, none⟩ = some (.int .i64 xn) ∧ w'.cell? ⟨W.heap.size + 1, 3, none⟩ = some (.int .i64 yn)) (by kernel_rfl) (HKP.out _ ((Chg.refl _ _).drew)) (fun hHeld => ?_)
                      refine' wpAnyH_take (i := 0) (oi := _) (v := .bool true) ?hibc0 (by kernel_rfl) (by kernel_rfl) (by kernel_rfl) ?hqbc0 (Or.inl ⟨?hwbc0, fun w hSw => ?hybc0⟩) hHeld ?hkbc0
                      case hibc0 => (simp only [List.getElem?_toArray, List.getElem?_cons_zero]; rfl)
                      case hqbc0 => exact fun _ _ _ h => h
                      case hwbc0 => rfl
                      case hybc0 => first | (go_simp; done) | (go_simp; with_reducible rfl)
                      simp only [Act.put, List.setIfInBounds_toArray, List.set_cons_zero, List.set_cons_succ]
                      refine' wpAnyH_take (i := 1) (oi := _) (v := .bool true) ?hibc1 (by kernel_rfl) (by kernel_rfl) (by kernel_rfl) ?hqbc1 (Or.inl ⟨?hwbc1, fun w hSw => ?hybc1⟩) hHeld ?hkbc1
                      case hibc1 => (simp only [List.getElem?_toArray, List.getElem?_cons_succ, List.getElem?_cons_zero]; rfl)
                      case hqbc1 => exact fun _ _ _ h => h
                      case hwbc1 => rfl
                      case hybc1 => first | (go_simp; done) | (go_simp; with_reducible rfl)
                      simp only [Act.put, List.setIfInBounds_toArray, List.set_cons_zero, List.set_cons_succ]
                      refine' wpAnyH_take (i := 2) (oi := _) (v := .bool true) ?hibc2 (by kernel_rfl) (by kernel_rfl) (by kernel_rfl) ?hqbc2 (Or.inl ⟨?hwbc2, fun w hSw => ?hybc2⟩) hHeld ?hkbc2
                      case hibc2 => (simp only [List.getElem?_toArray, List.getElem?_cons_succ, List.getElem?_cons_zero]; rfl)
                      case hqbc2 => exact fun _ _ _ h => h
                      case hwbc2 => rfl
                      case hybc2 => first | (go_simp; done) | (go_simp; with_reducible rfl)
                      simp only [Act.put, List.setIfInBounds_toArray, List.set_cons_zero, List.set_cons_succ]
                      refine' wpAnyH_take (i := 3) (oi := _) (v := .bool true) ?hibc3 (by kernel_rfl) (by kernel_rfl) (by kernel_rfl) ?hqbc3 (Or.inl ⟨?hwbc3, fun w hSw => ?hybc3⟩) hHeld ?hkbc3
                      case hibc3 => (simp only [List.getElem?_toArray, List.getElem?_cons_succ, List.getElem?_cons_zero]; rfl)
                      case hqbc3 => exact fun _ _ _ h => h
                      case hwbc3 => rfl
                      case hybc3 => first | (go_simp; done) | (go_simp; with_reducible rfl)
                      simp only [Act.put, List.setIfInBounds_toArray, List.set_cons_zero, List.set_cons_succ]
                      refine' wpAnyH_take (i := 4) (oi := _) (v := .bool true) ?hibc4 (by kernel_rfl) (by kernel_rfl) (by kernel_rfl) ?hqbc4 (Or.inl ⟨?hwbc4, fun w hSw => ?hybc4⟩) hHeld ?hkbc4
                      case hibc4 => (simp only [List.getElem?_toArray, List.getElem?_cons_succ, List.getElem?_cons_zero]; rfl)
                      case hqbc4 => exact fun _ _ _ h => h
                      case hwbc4 => rfl
                      case hybc4 => first | (go_simp; done) | (go_simp; with_reducible rfl)
                      simp only [Act.put, List.setIfInBounds_toArray, List.set_cons_zero, List.set_cons_succ]
                      refine' wpAnyH_take (i := 5) (oi := _) (v := .bool true) ?hibc5 (by kernel_rfl) (by kernel_rfl) (by kernel_rfl) ?hqbc5 (Or.inl ⟨?hwbc5, fun w hSw => ?hybc5⟩) hHeld ?hkbc5
                      case hibc5 => (simp only [List.getElem?_toArray, List.getElem?_cons_succ, List.getElem?_cons_zero]; rfl)
                      case hqbc5 => exact fun _ _ _ h => h
                      case hwbc5 => rfl
                      case hybc5 => first | (go_simp; done) | (go_simp; with_reducible rfl)
                      simp only [Act.put, List.setIfInBounds_toArray, List.set_cons_zero, List.set_cons_succ]
                      refine' wpAnyH_take (i := 6) (oi := _) (v := .bool true) ?hibc6 (by kernel_rfl) (by kernel_rfl) (by kernel_rfl) ?hqbc6 (Or.inl ⟨?hwbc6, fun w hSw => ?hybc6⟩) hHeld ?hkbc6
                      case hibc6 => (simp only [List.getElem?_toArray, List.getElem?_cons_succ, List.getElem?_cons_zero]; rfl)
                      case hqbc6 => exact fun _ _ _ h => h
                      case hwbc6 => rfl
                      case hybc6 => first | (go_simp; done) | (go_simp; with_reducible rfl)
                      simp only [Act.put, List.setIfInBounds_toArray, List.set_cons_zero, List.set_cons_succ]
                      refine' wpAnyH_take (i := 7) (oi := _) (v := .bool true) ?hibc7 (by kernel_rfl) (by kernel_rfl) (by kernel_rfl) ?hqbc7 (Or.inl ⟨?hwbc7, fun w hSw => ?hybc7⟩) hHeld ?hkbc7
                      case hibc7 => (simp only [List.getElem?_toArray, List.getElem?_cons_succ, List.getElem?_cons_zero]; rfl)
                      case hqbc7 => exact fun _ _ _ h => h
                      case hwbc7 => rfl
                      case hybc7 => first | (go_simp; done) | (go_simp; with_reducible rfl)
                      simp only [Act.put, List.setIfInBounds_toArray, List.set_cons_zero, List.set_cons_succ]
                      refine' wpAnyH_take (i := 8) (oi := _) (v := .int .i64 yn) ?hibc8 (by kernel_rfl) (by kernel_rfl) (by kernel_rfl) ?hqbc8 (Or.inl ⟨?hwbc8, fun w hSw => ?hybc8⟩) hHeld ?hkbc8
                      case hibc8 => (simp only [List.getElem?_toArray, List.getElem?_cons_succ, List.getElem?_cons_zero]; rfl)
                      case hqbc8 => exact fun _ _ _ h => h
                      case hwbc8 => rfl
                      case hybc8 => first | (go_simp; done) | (go_simp; with_reducible rfl)
                      simp only [Act.put, List.setIfInBounds_toArray, List.set_cons_zero, List.set_cons_succ]
                      refine' wpAnyH_take (i := 9) (oi := _) (v := .pointer (some ⟨W.heap.size + 1, 3, none⟩)) ?hibc9 (by kernel_rfl) (by kernel_rfl) (by kernel_rfl) ?hqbc9 (Or.inl ⟨?hwbc9, fun w hSw => ?hybc9⟩) hHeld ?hkbc9
                      case hibc9 => (simp only [List.getElem?_toArray, List.getElem?_cons_succ, List.getElem?_cons_zero]; rfl)
                      case hqbc9 => exact fun _ _ _ h => h
                      case hwbc9 => rfl
                      case hybc9 => first | (go_simp; done) | (go_simp; with_reducible rfl)
                      simp only [Act.put, List.setIfInBounds_toArray, List.set_cons_zero, List.set_cons_succ]
                      refine' wpAnyH_take (i := 10) (oi := _) (v := .int .i64 yn) ?hibc10 (by kernel_rfl) (by kernel_rfl) (by kernel_rfl) ?hqbc10 (Or.inl ⟨?hwbc10, fun w hSw => ?hybc10⟩) hHeld ?hkbc10
                      case hibc10 => (simp only [List.getElem?_toArray, List.getElem?_cons_succ, List.getElem?_cons_zero]; rfl)
                      case hqbc10 => exact fun _ _ _ h => h
                      case hwbc10 => rfl
                      case hybc10 => first | (go_simp; done) | (go_simp; with_reducible rfl)
                      simp only [Act.put, List.setIfInBounds_toArray, List.set_cons_zero, List.set_cons_succ]
                      refine' wpAnyH_take (i := 11) (oi := _) (v := .bool true) ?hibc11 (by kernel_rfl) (by kernel_rfl) (by kernel_rfl) ?hqbc11 (Or.inl ⟨?hwbc11, fun w hSw => ?hybc11⟩) hHeld ?hkbc11
                      case hibc11 => (simp only [List.getElem?_toArray, List.getElem?_cons_succ, List.getElem?_cons_zero]; rfl)
                      case hqbc11 => exact fun _ _ _ h => h
                      case hwbc11 => rfl
                      case hybc11 => first | (go_simp; done) | (go_simp; with_reducible rfl)
                      simp only [Act.put, List.setIfInBounds_toArray, List.set_cons_zero, List.set_cons_succ]
                      refine' wpAnyH_take (i := 12) (oi := _) (v := .bool true) ?hibc12 (by kernel_rfl) (by kernel_rfl) (by kernel_rfl) ?hqbc12 (Or.inl ⟨?hwbc12, fun w hSw => ?hybc12⟩) hHeld ?hkbc12
                      case hibc12 => (simp only [List.getElem?_toArray, List.getElem?_cons_succ, List.getElem?_cons_zero]; rfl)
                      case hqbc12 => exact fun _ _ _ h => h
                      case hwbc12 => rfl
                      case hybc12 => first | (go_simp; done) | (go_simp; with_reducible rfl)
                      simp only [Act.put, List.setIfInBounds_toArray, List.set_cons_zero, List.set_cons_succ]
                      refine' wpAnyH_take (i := 13) (oi := _) (v := .bool true) ?hibc13 (by kernel_rfl) (by kernel_rfl) (by kernel_rfl) ?hqbc13 (Or.inl ⟨?hwbc13, fun w hSw => ?hybc13⟩) hHeld ?hkbc13
                      case hibc13 => (simp only [List.getElem?_toArray, List.getElem?_cons_succ, List.getElem?_cons_zero]; rfl)
                      case hqbc13 => exact fun _ _ _ h => h
                      case hwbc13 => rfl
                      case hybc13 => first | (go_simp; done) | (go_simp; with_reducible rfl)
                      simp only [Act.put, List.setIfInBounds_toArray, List.set_cons_zero, List.set_cons_succ]
                      refine' wpAnyH_take (i := 14) (oi := _) (v := .bool false) ?hibc14 (by kernel_rfl) (by kernel_rfl) (by kernel_rfl) ?hqbc14 (Or.inl ⟨?hwbc14, fun w hSw => ?hybc14⟩) hHeld ?hkbc14
                      case hibc14 => (simp only [List.getElem?_toArray, List.getElem?_cons_succ, List.getElem?_cons_zero]; rfl)
                      case hqbc14 => exact fun _ _ _ h => h
                      case hwbc14 => rfl
                      case hybc14 => first | (go_simp; done) | (go_simp; with_reducible rfl)
                      simp only [Act.put, List.setIfInBounds_toArray, List.set_cons_zero, List.set_cons_succ]
                      refine' wpAnyH_take (i := 15) (oi := _) (v := .bool false) ?hibc15 (by kernel_rfl) (by kernel_rfl) (by kernel_rfl) ?hqbc15 (Or.inl ⟨?hwbc15, fun w hSw => ?hybc15⟩) hHeld ?hkbc15
                      case hibc15 => (simp only [List.getElem?_toArray, List.getElem?_cons_succ, List.getElem?_cons_zero]; rfl)
                      case hqbc15 => exact fun _ _ _ h => h
                      case hwbc15 => rfl
                      case hybc15 => first | (go_simp; done) | (go_simp; with_reducible rfl)
                      simp only [Act.put, List.setIfInBounds_toArray, List.set_cons_zero, List.set_cons_succ]
                      refine' wpAnyH_take (i := 16) (oi := _) (v := undef) ?hibc16 (by kernel_rfl) (by kernel_rfl) (by kernel_rfl) ?hqbc16 (Or.inr ⟨?hwbc16, rfl⟩) hHeld ?hkbc16
                      case hibc16 => (simp only [List.getElem?_toArray, List.getElem?_cons_succ, List.getElem?_cons_zero]; rfl)
                      case hqbc16 => exact fun _ _ _ h => h
                      case hwbc16 => rfl
                      simp only [Act.put, List.setIfInBounds_toArray, List.set_cons_zero, List.set_cons_succ]
                      refine' wpAnyH_take (i := 17) (oi := _) (v := undef) ?hibc17 (by kernel_rfl) (by kernel_rfl) (by kernel_rfl) ?hqbc17 (Or.inr ⟨?hwbc17, rfl⟩) hHeld ?hkbc17
                      case hibc17 => (simp only [List.getElem?_toArray, List.getElem?_cons_succ, List.getElem?_cons_zero]; rfl)
                      case hqbc17 => exact fun _ _ _ h => h
                      case hwbc17 => rfl
                      simp only [Act.put, List.setIfInBounds_toArray, List.set_cons_zero, List.set_cons_succ]
                      refine' wpAnyH_take (i := 18) (oi := _) (v := undef) ?hibc18 (by kernel_rfl) (by kernel_rfl) (by kernel_rfl) ?hqbc18 (Or.inr ⟨?hwbc18, rfl⟩) hHeld ?hkbc18
                      case hibc18 => (simp only [List.getElem?_toArray, List.getElem?_cons_succ, List.getElem?_cons_zero]; rfl)
                      case hqbc18 => exact fun _ _ _ h => h
                      case hwbc18 => rfl
                      simp only [Act.put, List.setIfInBounds_toArray, List.set_cons_zero, List.set_cons_succ]
                      refine' wpAnyH_take (i := 19) (oi := _) (v := undef) ?hibc19 (by kernel_rfl) (by kernel_rfl) (by kernel_rfl) ?hqbc19 (Or.inr ⟨?hwbc19, rfl⟩) hHeld ?hkbc19
                      case hibc19 => (simp only [List.getElem?_toArray, List.getElem?_cons_succ, List.getElem?_cons_zero]; rfl)
                      case hqbc19 => exact fun _ _ _ h => h
                      case hwbc19 => rfl
                      simp only [Act.put, List.setIfInBounds_toArray, List.set_cons_zero, List.set_cons_succ]
                      refine' wpAnyH_take (i := 20) (oi := _) (v := .bool false) ?hibc20 (by kernel_rfl) (by kernel_rfl) (by kernel_rfl) ?hqbc20 (Or.inl ⟨?hwbc20, fun w hSw => ?hybc20⟩) hHeld ?hkbc20
                      case hibc20 => (simp only [List.getElem?_toArray, List.getElem?_cons_succ, List.getElem?_cons_zero]; rfl)
                      case hqbc20 => exact fun _ _ _ h => h
                      case hwbc20 => rfl
                      case hybc20 => first | (go_simp; done) | (go_simp; with_reducible rfl)
                      simp only [Act.put, List.setIfInBounds_toArray, List.set_cons_zero, List.set_cons_succ]
                      refine' wpAnyH_take (i := 21) (oi := _) (v := .bool false) ?hibc21 (by kernel_rfl) (by kernel_rfl) (by kernel_rfl) ?hqbc21 (Or.inl ⟨?hwbc21, fun w hSw => ?hybc21⟩) hHeld ?hkbc21
                      case hibc21 => (simp only [List.getElem?_toArray, List.getElem?_cons_succ, List.getElem?_cons_zero]; rfl)
                      case hqbc21 => exact fun _ _ _ h => h
                      case hwbc21 => rfl
                      case hybc21 => first | (go_simp; done) | (go_simp; with_reducible rfl)
                      simp only [Act.put, List.setIfInBounds_toArray, List.set_cons_zero, List.set_cons_succ]
                      refine' wpAnyH_take (i := 22) (oi := _) (v := .bool false) ?hibc22 (by kernel_rfl) (by kernel_rfl) (by kernel_rfl) ?hqbc22 (Or.inl ⟨?hwbc22, fun w hSw => ?hybc22⟩) hHeld ?hkbc22
                      case hibc22 => (simp only [List.getElem?_toArray, List.getElem?_cons_succ, List.getElem?_cons_zero]; rfl)
                      case hqbc22 => exact fun _ _ _ h => h
                      case hwbc22 => rfl
                      case hybc22 => first | (go_simp; done) | (go_simp; with_reducible rfl)
                      simp only [Act.put, List.setIfInBounds_toArray, List.set_cons_zero, List.set_cons_succ]
                      refine' wpAnyH_take (i := 23) (oi := _) (v := .bool true) ?hibc23 (by kernel_rfl) (by kernel_rfl) (by kernel_rfl) ?hqbc23 (Or.inl ⟨?hwbc23, fun w hSw => ?hybc23⟩) hHeld ?hkbc23
                      case hibc23 => (simp only [List.getElem?_toArray, List.getElem?_cons_succ, List.getElem?_cons_zero]; rfl)
                      case hqbc23 => exact fun _ _ _ h => h
                      case hwbc23 => rfl
                      case hybc23 => first | (go_simp; done) | (go_simp; with_reducible rfl)
                      simp only [Act.put, List.setIfInBounds_toArray, List.set_cons_zero, List.set_cons_succ]
                      refine' wpAnyH_take (i := 24) (oi := _) (v := .bool true) ?hibc24 (by kernel_rfl) (by kernel_rfl) (by kernel_rfl) ?hqbc24 (Or.inl ⟨?hwbc24, fun w hSw => ?hybc24⟩) hHeld ?hkbc24
                      case hibc24 => (simp only [List.getElem?_toArray, List.getElem?_cons_succ, List.getElem?_cons_zero]; rfl)
                      case hqbc24 => exact fun _ _ _ h => h
                      case hwbc24 => rfl
                      case hybc24 => first | (go_simp; done) | (go_simp; with_reducible rfl)
                      simp only [Act.put, List.setIfInBounds_toArray, List.set_cons_zero, List.set_cons_succ]
                      refine' wpAnyH_take (i := 25) (oi := _) (v := .int .i64 xn) ?hibc25 (by kernel_rfl) (by kernel_rfl) (by kernel_rfl) ?hqbc25 (Or.inl ⟨?hwbc25, fun w hSw => ?hybc25⟩) hHeld ?hkbc25
                      case hibc25 => (simp only [List.getElem?_toArray, List.getElem?_cons_succ, List.getElem?_cons_zero]; rfl)
                      case hqbc25 => exact fun _ _ _ h => h
                      case hwbc25 => rfl
                      case hybc25 => first | (go_simp; done) | (go_simp; with_reducible rfl)
                      simp only [Act.put, List.setIfInBounds_toArray, List.set_cons_zero, List.set_cons_succ]
                      refine' wpAnyH_take (i := 26) (oi := _) (v := .pointer (some ⟨W.heap.size, 3, none⟩)) ?hibc26 (by kernel_rfl) (by kernel_rfl) (by kernel_rfl) ?hqbc26 (Or.inl ⟨?hwbc26, fun w hSw => ?hybc26⟩) hHeld ?hkbc26
                      case hibc26 => (simp only [List.getElem?_toArray, List.getElem?_cons_succ, List.getElem?_cons_zero]; rfl)
                      case hqbc26 => exact fun _ _ _ h => h
                      case hwbc26 => rfl
                      case hybc26 => first | (go_simp; done) | (go_simp; with_reducible rfl)
                      simp only [Act.put, List.setIfInBounds_toArray, List.set_cons_zero, List.set_cons_succ]
                      refine' wpAnyH_take (i := 27) (oi := _) (v := .int .i64 xn) ?hibc27 (by kernel_rfl) (by kernel_rfl) (by kernel_rfl) ?hqbc27 (Or.inl ⟨?hwbc27, fun w hSw => ?hybc27⟩) hHeld ?hkbc27
                      case hibc27 => (simp only [List.getElem?_toArray, List.getElem?_cons_succ, List.getElem?_cons_zero]; rfl)
                      case hqbc27 => exact fun _ _ _ h => h
                      case hwbc27 => rfl
                      case hybc27 => first | (go_simp; done) | (go_simp; with_reducible rfl)
                      simp only [Act.put, List.setIfInBounds_toArray, List.set_cons_zero, List.set_cons_succ]
                      refine' wpAnyH_take (i := 28) (oi := _) (v := .bool true) ?hibc28 (by kernel_rfl) (by kernel_rfl) (by kernel_rfl) ?hqbc28 (Or.inl ⟨?hwbc28, fun w hSw => ?hybc28⟩) hHeld ?hkbc28
                      case hibc28 => (simp only [List.getElem?_toArray, List.getElem?_cons_succ, List.getElem?_cons_zero]; rfl)
                      case hqbc28 => exact fun _ _ _ h => h
                      case hwbc28 => rfl
                      case hybc28 => first | (go_simp; done) | (go_simp; with_reducible rfl)
                      simp only [Act.put, List.setIfInBounds_toArray, List.set_cons_zero, List.set_cons_succ]
                      refine' wpAnyH_take (i := 29) (oi := _) (v := .bool true) ?hibc29 (by kernel_rfl) (by kernel_rfl) (by kernel_rfl) ?hqbc29 (Or.inl ⟨?hwbc29, fun w hSw => ?hybc29⟩) hHeld ?hkbc29
                      case hibc29 => (simp only [List.getElem?_toArray, List.getElem?_cons_succ, List.getElem?_cons_zero]; rfl)
                      case hqbc29 => exact fun _ _ _ h => h
                      case hwbc29 => rfl
                      case hybc29 => first | (go_simp; done) | (go_simp; with_reducible rfl)
                      simp only [Act.put, List.setIfInBounds_toArray, List.set_cons_zero, List.set_cons_succ]
                      refine' wpAnyH_take (i := 30) (oi := _) (v := .bool true) ?hibc30 (by kernel_rfl) (by kernel_rfl) (by kernel_rfl) ?hqbc30 (Or.inl ⟨?hwbc30, fun w hSw => ?hybc30⟩) hHeld ?hkbc30
                      case hibc30 => (simp only [List.getElem?_toArray, List.getElem?_cons_succ, List.getElem?_cons_zero]; rfl)
                      case hqbc30 => exact fun _ _ _ h => h
                      case hwbc30 => rfl
                      case hybc30 => first | (go_simp; done) | (go_simp; with_reducible rfl)
                      simp only [Act.put, List.setIfInBounds_toArray, List.set_cons_zero, List.set_cons_succ]
                      refine' wpAnyH_take (i := 31) (oi := _) (v := .bool true) ?hibc31 (by kernel_rfl) (by kernel_rfl) (by kernel_rfl) ?hqbc31 (Or.inl ⟨?hwbc31, fun w hSw => ?hybc31⟩) hHeld ?hkbc31
                      case hibc31 => (simp only [List.getElem?_toArray, List.getElem?_cons_succ, List.getElem?_cons_zero]; rfl)
                      case hqbc31 => exact fun _ _ _ h => h
                      case hwbc31 => rfl
                      case hybc31 => first | (go_simp; done) | (go_simp; with_reducible rfl)
                      simp only [Act.put, List.setIfInBounds_toArray, List.set_cons_zero, List.set_cons_succ]
                      refine' wpAnyH_take (i := 32) (oi := _) (v := .bool true) ?hibc32 (by kernel_rfl) (by kernel_rfl) (by kernel_rfl) ?hqbc32 (Or.inl ⟨?hwbc32, fun w hSw => ?hybc32⟩) hHeld ?hkbc32
                      case hibc32 => (simp only [List.getElem?_toArray, List.getElem?_cons_succ, List.getElem?_cons_zero]; rfl)
                      case hqbc32 => exact fun _ _ _ h => h
                      case hwbc32 => rfl
                      case hybc32 => first | (go_simp; done) | (go_simp; with_reducible rfl)
                      simp only [Act.put, List.setIfInBounds_toArray, List.set_cons_zero, List.set_cons_succ]
                      refine' wpAnyH_take (i := 33) (oi := _) (v := .pointer (some ⟨lb2, 0, none⟩)) ?hibc33 (by kernel_rfl) (by kernel_rfl) (by kernel_rfl) ?hqbc33 (Or.inl ⟨?hwbc33, fun w hSw => ?hybc33⟩) hHeld ?hkbc33
                      case hibc33 => (simp only [List.getElem?_toArray, List.getElem?_cons_succ, List.getElem?_cons_zero]; rfl)
                      case hqbc33 => exact fun _ _ _ h => h
                      case hwbc33 => rfl
                      case hybc33 => first | (go_simp; done) | (go_simp; with_reducible rfl)
                      simp only [Act.put, List.setIfInBounds_toArray, List.set_cons_zero, List.set_cons_succ]
                      refine' wpAnyH_take (i := 34) (oi := _) (v := .pointer (some ⟨W.heap.size, 1, none⟩)) ?hibc34 (by kernel_rfl) (by kernel_rfl) (by kernel_rfl) ?hqbc34 (Or.inl ⟨?hwbc34, fun w hSw => ?hybc34⟩) hHeld ?hkbc34
                      case hibc34 => (simp only [List.getElem?_toArray, List.getElem?_cons_succ, List.getElem?_cons_zero]; rfl)
                      case hqbc34 => exact fun _ _ _ h => h
                      case hwbc34 => rfl
                      case hybc34 => first | (go_simp; done) | (go_simp; with_reducible rfl)
                      simp only [Act.put, List.setIfInBounds_toArray, List.set_cons_zero, List.set_cons_succ]
                      refine' wpAnyH_take (i := 35) (oi := _) (v := .int .i64 xa) ?hibc35 (by kernel_rfl) (by kernel_rfl) (by kernel_rfl) ?hqbc35 (Or.inl ⟨?hwbc35, fun w hSw => ?hybc35⟩) hHeld ?hkbc35
                      case hibc35 => (simp only [List.getElem?_toArray, List.getElem?_cons_succ, List.getElem?_cons_zero]; rfl)
                      case hqbc35 => exact fun _ _ _ h => h
                      case hwbc35 => rfl
                      case hybc35 => first | (go_simp; done) | (go_simp; with_reducible rfl)
                      simp only [Act.put, List.setIfInBounds_toArray, List.set_cons_zero, List.set_cons_succ]
                      refine' wpAnyH_take (i := 37) (oi := _) (v := .pointer (some ⟨lb, 0, none⟩)) ?hibc37 (by kernel_rfl) (by kernel_rfl) (by kernel_rfl) ?hqbc37 (Or.inl ⟨?hwbc37, fun w hSw => ?hybc37⟩) hHeld ?hkbc37
                      case hibc37 => (simp only [List.getElem?_toArray, List.getElem?_cons_succ, List.getElem?_cons_zero]; rfl)
                      case hqbc37 => exact fun _ _ _ h => h
                      case hwbc37 => rfl
                      case hybc37 => first | (go_simp; done) | (go_simp; with_reducible rfl)
                      simp only [Act.put, List.setIfInBounds_toArray, List.set_cons_zero, List.set_cons_succ]
                      refine' wpAnyH_take (i := 38) (oi := _) (v := .pointer (some ⟨W.heap.size, 1, none⟩)) ?hibc38 (by kernel_rfl) (by kernel_rfl) (by kernel_rfl) ?hqbc38 (Or.inl ⟨?hwbc38, fun w hSw => ?hybc38⟩) hHeld ?hkbc38
                      case hibc38 => (simp only [List.getElem?_toArray, List.getElem?_cons_succ, List.getElem?_cons_zero]; rfl)
                      case hqbc38 => exact fun _ _ _ h => h
                      case hwbc38 => rfl
                      case hybc38 => first | (go_simp; done) | (go_simp; with_reducible rfl)
                      simp only [Act.put, List.setIfInBounds_toArray, List.set_cons_zero, List.set_cons_succ]
                      refine' wpAnyH_take (i := 39) (oi := _) (v := .int .i64 xa) ?hibc39 (by kernel_rfl) (by kernel_rfl) (by kernel_rfl) ?hqbc39 (Or.inl ⟨?hwbc39, fun w hSw => ?hybc39⟩) hHeld ?hkbc39
                      case hibc39 => (simp only [List.getElem?_toArray, List.getElem?_cons_succ, List.getElem?_cons_zero]; rfl)
                      case hqbc39 => exact fun _ _ _ h => h
                      case hwbc39 => rfl
                      case hybc39 => first | (go_simp; done) | (go_simp; with_reducible rfl)
                      simp only [Act.put, List.setIfInBounds_toArray, List.set_cons_zero, List.set_cons_succ]
                      refine wpAnyH_ready (rs := [36]) (by kernel_rfl) (by simp) ?_
                      refine AllReadyH.cons rfl (fun K hK => ?_) AllReadyH.nil
                      go_simp
                      go_at_call 20
                      refine (e1 _ ((Chg.refl _ _).drew)).mono ?_
                      rintro e w13 ⟨rfl, hC13⟩
                      refine hK.out _ _ (HKP.out _ hC13) (fun hHeld => ?_)
                      clear hK K
                      refine wpAnyH_ready (rs := [40]) (by kernel_rfl) (by simp) ?_
                      refine AllReadyH.cons rfl (fun K hK => ?_) AllReadyH.nil
                      go_simp
                      go_at_call 20
                      refine (e2 _ hC13).mono ?_
                      rintro e w14 ⟨rfl, hC14⟩
                      refine hK.out _ _ (HKP.out _ hC14) (fun hHeld => ?_)
                      clear hK K
                      refine' wpAnyH_take (i := 41) (oi := _) (v := .bool true) ?hibc41 (by kernel_rfl) (by kernel_rfl) (by kernel_rfl) ?hqbc41 (Or.inl ⟨?hwbc41, fun w hSw => ?hybc41⟩) hHeld ?hkbc41
                      case hibc41 => (simp only [List.getElem?_toArray, List.getElem?_cons_succ, List.getElem?_cons_zero]; rfl)
                      case hqbc41 => exact fun _ _ _ h => h
                      case hwbc41 => rfl
                      case hybc41 => first | (go_simp; done) | (go_simp; with_reducible rfl)
                      simp only [Act.put, List.setIfInBounds_toArray, List.set_cons_zero, List.set_cons_succ]
                      refine' wpAnyH_take (i := 42) (oi := _) (v := .bool true) ?hibc42 (by kernel_rfl) (by kernel_rfl) (by kernel_rfl) ?hqbc42 (Or.inl ⟨?hwbc42, fun w hSw => ?hybc42⟩) hHeld ?hkbc42
                      case hibc42 => (simp only [List.getElem?_toArray, List.getElem?_cons_succ, List.getElem?_cons_zero]; rfl)
                      case hqbc42 => exact fun _ _ _ h => h
                      case hwbc42 => rfl
                      case hybc42 => first | (go_simp; done) | (go_simp; with_reducible rfl)
                      simp only [Act.put, List.setIfInBounds_toArray, List.set_cons_zero, List.set_cons_succ]
                      refine' wpAnyH_take (i := 43) (oi := _) (v := .bool true) ?hibc43 (by kernel_rfl) (by kernel_rfl) (by kernel_rfl) ?hqbc43 (Or.inl ⟨?hwbc43, fun w hSw => ?hybc43⟩) hHeld ?hkbc43
                      case hibc43 => (simp only [List.getElem?_toArray, List.getElem?_cons_succ, List.getElem?_cons_zero]; rfl)
                      case hqbc43 => exact fun _ _ _ h => h
                      case hwbc43 => rfl
                      case hybc43 => first | (go_simp; done) | (go_simp; with_reducible rfl)
                      simp only [Act.put, List.setIfInBounds_toArray, List.set_cons_zero, List.set_cons_succ]
                      refine wpAnyH_done (by kernel_rfl) ?_ _
                      go_wp2
                      go_ret
                      exact ⟨rfl, (hCF.tr hC1112).tr hC14⟩
            · have hq : ((Lb : Int) != (ps.length : Int) - 1) = true := by have := hLb.out; rw [bne_iff_ne]; omega
              go_wp2_with (go_at_call 18; (with_reducible refine pb.mono ?_); rintro e w7 ⟨rfl, rfl⟩)
              go_ret
              exact ⟨rfl, hCE⟩
        · go_wp2
          go_ret
          exact ⟨rfl, hCE⟩
      · go_wp2
        go_ret
        exact ⟨rfl, hCE⟩
    · go_wp2
      go_ret
      exact ⟨rfl, hCE⟩
  · go_wp2
    go_ret
    exact ⟨rfl, hCE⟩
end Go.Proofs.Ytpiboaoifcajdaa
