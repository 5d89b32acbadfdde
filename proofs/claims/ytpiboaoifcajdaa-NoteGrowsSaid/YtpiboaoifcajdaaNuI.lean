/- NoteGrows: a log of fewer payloads has the first ones of its notes, and all tiles and runs that it has done are done, with more notes too; a tile that is noted is done. -/
import Derived.Test.YtpiboaoifcajdaaNuH
import Derived.Test.YtpiboaoifcajdaaNtV
import Derived.Deep.DeepCutAuto
namespace Go.Proofs.Ytpiboaoifcajdaa
open Go.RowKit Go.Shelf

theorem size_bytes (w : World) : (sizeOf 24).run Try.prog w = .ok 1 w := by kernel_rfl
theorem size_note (w : World) : (sizeOf 23).run Try.prog w = .ok 4 w := by kernel_rfl
theorem elem_note : Try.prog.elem 40 = 23 := by kernel_rfl
theorem chg_drewT {w w' : World} (h : Chg (fun _ => False) w w') : Chg (fun _ => False) w w'.drew := h.drew
theorem nts_at' {W : World} {ao : Option Addr} {n c : Nat} {l : List Nt} (h : Nts W (.slice ao n c) l) {j : Nat} (hj : j < l.length) : ∃ b o, ao = some ⟨b, o, none⟩ ∧ NtAt W b (o + j * 4) l[j] := nts_at h hj
/-- The first notes of a list. -/
theorem cut_notes {w : World} {ao : Option Addr} {n c : Nat} {A q L : List Nt} (h : w.ownsRow 0 23 4 (.slice ao n c) L.length (flatN L)) (hL : L = A ++ q) (hn : L.length = n) (m : Nat) (hm : A.length = m) :
    ∃ a2 c2, Nts w (.slice a2 m c2) A ∧ (∀ W, (Instr.slice 40 (.slice ao n c) none (some (.int .i64 (m : Int))) none).run Try.prog W = .ok (.slice a2 m c2) W) := by
  have hle : m ≤ n := by rw [← hn, hL, List.length_append]; omega
  have hnc : n ≤ c := by
    rcases h.2 with ⟨e, h0⟩ | ⟨g, cap, cur, e, _, _, h1, _⟩
    · injection e with _ e1 e2; omega
    · injection e with _ e1 e2; omega
  have hN := Nts.of_owns h
  have ht' : Try.prog.underlying 40 = some (.slice (Try.prog.elem 40)) := by rw [elem_note]; exact und_notes
  refine ⟨if c = 0 then ao else ao.map (·.add (0 * 4)), c - 0, ⟨⟨_, _, by rw [hm], fun e => ?_⟩, ?_⟩, fun W => ?_⟩
  · by_cases hc : c = 0
    · refine ⟨List.eq_nil_of_length_eq_zero (by omega), by omega⟩
    · rw [if_neg hc] at e
      cases ao with
      | none =>
        obtain ⟨ao', c', e1, e2⟩ := hN.form
        injection e1 with e3 e4 e5
        have h9 := e2 e3.symm
        have : c' = 0 := h9.2
        omega
      | some ad => cases e
  · intro j hj
    obtain ⟨b, o, c', e1, hx⟩ := hN.cells j (by rw [hL, List.length_append]; omega)
    injection e1 with e1 e2 e3
    subst e1
    have hc : ¬ c = 0 := by
      have : j < n := by rw [← hn, hL, List.length_append]; omega
      omega
    rw [if_neg hc, Option.map_some]
    refine ⟨b, o, c - 0, by rw [Addr.add_lit, hm]; simp, ?_⟩
    have h9 : L[j]'(by rw [hL, List.length_append]; omega) = A[j] := by simp only [hL]; exact List.getElem_append_left hj
    rw [← h9]
    exact hx
  · rw [run_slice_h W 40 ao n c ht' .i64 m (by omega) (by omega), elem_note, size_note]
    simp [sliced, Result.andThen]
theorem encE_or (k a b n : Int) : ((Nt.mk k a b n).may = true ∧ encE k a b n = 0) ∨ ((Nt.mk k a b n).may = false ∧ encE k a b n = 90) := by
  by_cases h : (Nt.mk k a b n).may = true
  · exact .inl ⟨h, (enc_parts.2 h).2⟩
  · have h' : (Nt.mk k a b n).may = false := by simpa using h
    exact .inr ⟨h', (enc_parts.1 h').2⟩
theorem pay_cat {w2 : World} {base n : Nat} {v2 : Value} {vs1 vs2 : List Value} {ps1 ps2 : List (List UInt8)} (hown : w2.ownsRow base 24 1 v2 n (vs1 ++ vs2)) (h1 : vs1.length = ps1.length) (h2 : vs2.length = ps2.length)
    (k1 : ∀ (j : Nat) (u : Value) (xs : List UInt8), vs1[j]? = some u → ps1[j]? = some xs → Sl w2 u (xs.map B)) (k2 : ∀ (j : Nat) (u : Value) (xs : List UInt8), vs2[j]? = some u → ps2[j]? = some xs → Sl w2 u (xs.map B)) : Pay w2 v2 (ps1 ++ ps2) := by
  refine ⟨_, Sl.of_owns hown, by rw [List.length_append, List.length_append, h1, h2], fun j u xs hu hx => ?_⟩
  by_cases hj : j < vs1.length
  · rw [List.getElem?_append_left hj] at hu
    rw [List.getElem?_append_left (by omega)] at hx
    exact k1 j u xs hu hx
  · rw [List.getElem?_append_right (by omega)] at hu hx
    rw [← h1] at hx
    exact k2 _ u xs hu hx
theorem pay_parts {W : World} {ao : Option Addr} {n c : Nat} {ps : List (List UInt8)} (h : Pay W (.slice ao n c) ps) : ∃ vs : List Value, vs.length = n * 1 ∧ (∀ w', Chg (fun _ => False) W w' → ∀ j u, vs[j]? = some u → ∃ ad, ao = some ad ∧ w'.cell? (ad.add j) = some u) ∧ (∀ u ∈ vs, u.oneCell' = true) ∧
    (vs.length = ps.length ∧ ∀ w', Chg (fun _ => False) W w' → ∀ (j : Nat) (u : Value) (xs : List UInt8), vs[j]? = some u → ps[j]? = some xs → Sl w' u (xs.map B)) := by
  obtain ⟨vs, h1, h2, h3⟩ := h
  have hn : vs.length = n := by obtain ⟨_, _, e, _⟩ := h1.form; injection e with _ e _; exact e.symm
  subst hn
  refine ⟨vs, by simp, fun w' hC => (h1.fr hC).src, fun u hu => ?_, h2, fun w' hC j u xs hu hx => (h3 j u xs hu hx).fr hC⟩
  obtain ⟨j, hj, rfl⟩ := List.getElem_of_mem hu
  obtain ⟨_, _, e, _⟩ := (h3 j _ _ (List.getElem?_eq_getElem hj) (List.getElem?_eq_getElem (by omega))).form
  rw [e]
  rfl
theorem more_plain {s : Int} {ps : List (List UInt8)} {N : List Nt} {x : Nt} (hb : begN s ps = true) (hn : noteN s ps = N) (hlen : N.length + 1 = ps.length) (hend : ∀ y, N.getLast? = some y → y.k ≤ 3) (hx : x.may = true ∧ x.ok) (kx : x.k = 2) :
    begN s (ps ++ [encN x]) = true ∧ noteN s (ps ++ [encN x]) = N ++ [x] ∧ (fil (N ++ [x])).reverse = x :: (fil N).reverse := by
  obtain ⟨g1, g2⟩ := log_more s ps [encN x] hb (by rw [hn]; exact hlen) (by rw [hn]; exact hend)
  refine ⟨g1, ?_, ?_⟩
  · rw [g2, hn]
    have := takeN_enc [x] (fun z hz => by rw [List.mem_singleton.1 hz]; exact hx)
    rw [List.map_cons, List.map_nil] at this
    rw [this]
    simp [takeM, kx]
  · rw [fil_append]
    have : fil [x] = [x] := by simp [fil, kx]
    rw [this]
    simp
theorem own_leB {w9 wB : World} (h : Chg (fun _ => False) w9 wB) (o : Obj) : w9.heap.size ≤ (wB.alloc o).heap.size := by
  have := h.size
  simp
  omega
-- R14 BEGIN
-- R14 END
set_option maxRecDepth 100000 in
set_option maxHeartbeats 20000000 in
theorem noteGrows_walk (s : Int) (v : Value) (ps : List (List UInt8)) (a : Int) (xk xa xb xn : Int) (W : World) (_h : (Lit.int .i64 s).wf = true) (hP : Pay W v ps) (ha : (Lit.int .u8 a).wf = true) (hx : NoteOk xk xa xb xn) : Calls Try.prog 8 #[.int .i64 s, v, .int .u8 a, noteV xk xa xb xn] W (True_ W) := by
  clear _h
  have HX := Lib.hid hx
  have ha' := wf_u8' ha
  obtain ⟨p, rfl⟩ := Int.eq_ofNat_of_zero_le ha'.1
  have HPB := Lib.hid (show p ≤ 255 by omega)
  clear ha ha' hx
  unfold noteV
  have hform : ∃ ao c, v = .slice ao ps.length c := by
    obtain ⟨vs, h1, h2, _⟩ := hP
    obtain ⟨ao, c, e, _⟩ := h1.form
    exact ⟨ao, c, by rw [e, h2]⟩
  obtain ⟨pa, pc, rfl⟩ := hform
  have HP := Lib.hid hP
  clear hP
  obtain ⟨n, hn⟩ : ∃ n, ps.length = n := ⟨_, rfl⟩
  rw [hn] at HP ⊢
  have HN := Lib.hid hn
  clear hn
  have hCx := (Chg.refl (fun _ => False) W).alloc (.cells #[.int .i64 xk, .int .i64 xa, .int .i64 xb, .int .i64 xn] 23)
  have HB7 := Lib.hid (four_cells W (.int .i64 xk) (.int .i64 xa) (.int .i64 xb) (.int .i64 xn) 23)
  have HCX := Lib.hid hCx
  clear hCx
  go_enter Try.func8, Try.ntmps8
  go_wp2_with fail
  refine (alive9_any _).mono ?_
  rintro e9 w1 ⟨rfl, hC1⟩
  have HC := Lib.hid (HCX.out.tr hC1)
  obtain ⟨x0, x1, x2, x3⟩ := HB7.out
  replace x0 := hC1.cell x0 id
  replace x1 := hC1.cell x1 id
  replace x2 := hC1.cell x2 id
  replace x3 := hC1.cell x3 id
  clear hC1 HCX HB7
  have hgr := great9_any _ ps w1 (HP.out.fr HC.out)
  obtain ⟨g, hg⟩ : ∃ g, greatB ps = g := ⟨_, rfl⟩
  rw [hg] at hgr
  have HG := Lib.hid hg
  clear hg
  go_wp2_with fail
  refine hgr.mono ?_
  clear hgr
  rintro e9 w2 ⟨rfl, e1⟩
  obtain rfl : w1 = w2 := e1.symm
  cases g with
  | true =>
    go_wp2
    go_ret
    exact ⟨rfl, HC.out⟩
  | false =>
    have HGR := Lib.hid (great_not HG.out)
    have hnb : n ≤ 150 := by have := HGR.out.1; have := HN.out; omega
    have HNB := Lib.hid hnb
    obtain ⟨k, hk⟩ : ∃ k, p % (n + 1) = k := ⟨_, rfl⟩
    have hkn : k ≤ n := by rw [← hk]; have := Nat.mod_lt p (show n + 1 > 0 by omega); omega
    have HK := Lib.hid hkn
    have c1 : IntKind.i64.wrap (p : Int) = (p : Int) := IntWalk.i64_in _ (by have := HPB.out; omega)
    have c2 : IntKind.i64.wrap ((n : Int) + 1) = ((n + 1 : Nat) : Int) := (IntWalk.i64_in _ (by omega)).trans (by omega)
    have c3 : Int.tmod (p : Int) ((n + 1 : Nat) : Int) = (k : Int) := by rw [Int.tmod_eq_emod_of_nonneg (by omega), ← hk]; exact (Int.natCast_emod _ _).symm
    have c4 : IntKind.i64.wrap (k : Int) = (k : Int) := IntWalk.i64_in _ (by clear c1 c2 c3; omega)
    obtain ⟨n1, hn1⟩ : ∃ n1, n + 1 = n1 := ⟨_, rfl⟩
    rw [hn1] at c2 c3
    have c5 : ¬ (n1 : Int) = 0 := by clear c1 c2 c3 c4; omega
    have c6 : ¬ n1 = 0 := by clear c1 c2 c3 c4; omega
    obtain ⟨qa, qc, hPk, hcut⟩ := pay_cut (HP.out.fr HC.out) HN.out k hkn size_bytes
    obtain ⟨q, hpre⟩ := grow_pre s ps k
    obtain ⟨bg1, hb1⟩ : ∃ x, begN s (ps.take k) = x := ⟨_, rfl⟩
    obtain ⟨bg2, hb2⟩ : ∃ x, begN s ps = x := ⟨_, rfl⟩
    obtain ⟨A, hA⟩ : ∃ x, noteN s (ps.take k) = x := ⟨_, rfl⟩
    obtain ⟨L, hL⟩ : ∃ x, noteN s ps = x := ⟨_, rfl⟩
    rw [hA, hL] at hpre
    have hlaw := grow_law ⟨q, hpre⟩
    have hbeg : (bg1 = true → bg2 = true) ∧ (bg2 = true → 0 < k → bg1 = true) := by
      rw [← hb1, ← hb2]
      by_cases h0 : 0 < k
      · rw [beg_take s ps k h0]; exact ⟨id, fun h _ => h⟩
      · have : k = 0 := by omega
        rw [this, List.take_zero]
        exact ⟨fun h => (by cases h), fun _ h => absurd h (by omega)⟩
    have hLok : (∀ x ∈ L, x.ok ∧ (x.k ≤ 5 ∧ 1 ≤ x.k) ∧ x.a ≤ 1048576 ∧ 0 ≤ x.a) ∧ L.length ≤ n := by
      rw [← hL]
      exact ⟨fun x hx => note_mem hx, by have := note_len s ps; have := HN.out; omega⟩
    have hAok : ∀ x ∈ A, x.ok ∧ (x.k ≤ 5 ∧ 1 ≤ x.k) ∧ x.a ≤ 1048576 ∧ 0 ≤ x.a := by
      rw [← hA]
      exact fun x hx => note_mem hx
    have HPRE := Lib.hid hpre
    have HLAW := Lib.hid hlaw
    have HBEG := Lib.hid hbeg
    have HLOK := Lib.hid hLok
    have HAOK := Lib.hid hAok
    have HBL := Lib.hid (And.intro hb2 hL)
    have hnf := newP_any s (ps.take k) _ w1 hPk (by rw [List.length_take]; omega) (fun xs hx => by have := HGR.out.2 xs (List.mem_of_mem_take hx); omega) bg1 A _ hb1 hA rfl
    have hna := fun w' (h : Chg (fun _ => False) w1 w') => newP_any s ps _ w' ((HP.out.fr HC.out).fr h) (by have := HN.out; omega) (fun xs hx => by have := HGR.out.2 xs hx; omega) bg2 L _ hb2 hL rfl
    unfold GaveG at hnf hna
    clear hk hkn hnb hn1 hPk hpre hb1 hb2 hA hL hlaw hbeg hLok hAok
    go_wp2_with fail
    refine hnf.mono ?_
    clear hnf hcut c1 c2 c3 c4 c5 c6
    rintro e9 w2 ⟨lb1, mb1, ba1, vl1, st1, rfl, hlog1, _, hC2⟩
    replace hna := hna w2 hC2
    go_wp2_with fail
    refine hna.mono ?_
    clear hna
    rintro e9 w3 ⟨lb2, mb2, ba2, vl2, st2, rfl, hlog2, _, hC3⟩
    replace hlog1 := log_fr hlog1 hC3
    have hC23 := hC2.tr hC3
    replace x0 := hC23.cell x0 id
    replace x1 := hC23.cell x1 id
    replace x2 := hC23.cell x2 id
    replace x3 := hC23.cell x3 id
    replace HC := Lib.hid (HC.out.tr hC23)
    have HLOG := Lib.hid (And.intro hlog1 hlog2)
    clear hC2 hC3 hC23
    have hl1 := HPRE.out
    obtain ⟨nA, hnA⟩ : ∃ x, A.length = x := ⟨_, rfl⟩
    obtain ⟨nL, hnL⟩ : ∃ x, L.length = x := ⟨_, rfl⟩
    have hAL : nA ≤ nL := by rw [← hnA, ← hnL, hl1, List.length_append]; omega
    have hLn : nL ≤ n := by rw [← hnL]; exact HLOK.out.2
    have HNA := Lib.hid (And.intro hnA (And.intro hnL (And.intro hAL hLn)))
    have hnt1 := notes_any hlog1 (show A.length ≤ 1000000 by have := HNB.out; omega)
    unfold GaveNs at hnt1
    clear hl1 hAL hLn
    go_wp2_with fail
    refine hnt1.mono ?_
    clear hnt1
    rintro e9 w4 ⟨vA, rfl, hvA, hC4⟩
    replace hvA : w4.ownsRow w3.heap.size 23 4 vA A.length (flatN A) := hvA
    obtain ⟨aA, nA', cA, rfl, hA'⟩ := owns_name hvA
    rw [hnA] at hA'
    obtain rfl : nA = nA' := hA'.out.symm
    have hnt2 := notes_any (log_fr hlog2 hC4) (show L.length ≤ 1000000 by have := HNB.out; have := HNA.out; omega)
    unfold GaveNs at hnt2
    clear hlog1 hlog2
    go_wp2_with fail
    refine hnt2.mono ?_
    clear hnt2
    rintro e9 w5 ⟨vL, rfl, hvL, hC5⟩
    replace hvL : w5.ownsRow w4.heap.size 23 4 vL L.length (flatN L) := hvL
    obtain ⟨aL, nL', cL, rfl, hL'⟩ := owns_name hvL
    rw [hnL] at hL'
    obtain rfl : nL = nL' := hL'.out.symm
    obtain ⟨a2, c2, hcN, hcut⟩ := cut_notes (owns_base hvL (Nat.zero_le _)) HPRE.out hnL nA hnA
    have HVA := Lib.hid (Nts.of_owns (hC5.owns hvA (fun _ _ => id)))
    have HVL := Lib.hid (Nts.of_owns hvL)
    have hC45 := hC4.tr hC5
    replace x0 := hC45.cell x0 id
    replace x1 := hC45.cell x1 id
    replace x2 := hC45.cell x2 id
    replace x3 := hC45.cell x3 id
    replace HC := Lib.hid (HC.out.tr hC45)
    replace HLOG := Lib.hid (And.intro (log_fr HLOG.out.1 hC45) (log_fr HLOG.out.2 hC45))
    have hsm := r9same_eq _ _ A w5 HVA.out hcN (by have := HNB.out; have := HNA.out; omega)
    unfold GaveBo at hsm
    have dlt : decide (nL < nA) = false := decide_eq_false (by have := HNA.out; omega)
    clear hvA hC4 hA' hvL hC5 hL' hC45 hcN hnA hnL
    go_upto_region 7 with (fail)
    go_cut [86] (fun s86 wx => s86 = .bool false ∧ Chg (fun _ => False) w5 wx)
    case first =>
      go_wp2_with fail
      refine hsm.mono ?_
      clear hsm
      rintro e9 w6 ⟨rfl, hC6⟩
      have hbf := begun_any (log_fr HLOG.out.1 hC6)
      have hba := begun_any (log_fr HLOG.out.2 hC6)
      clear hcut dlt
      cases bg1 with
      | true =>
        obtain rfl : bg2 = true := HBEG.out.1 rfl
        by_cases h0 : 0 < k
        · have d0 : decide (0 < k) = true := decide_eq_true h0
          clear h0
          go_wp2_with (first | ((with_reducible refine hbf.mono ?_); rintro e9 w8 ⟨rfl, rfl⟩) | ((with_reducible refine hba.mono ?_); rintro e9 w8 ⟨rfl, rfl⟩))
          go_meet
          exact ⟨rfl, hC6⟩
        · have d0 : decide (0 < k) = false := decide_eq_false h0
          clear h0
          go_wp2_with (first | ((with_reducible refine hbf.mono ?_); rintro e9 w8 ⟨rfl, rfl⟩) | ((with_reducible refine hba.mono ?_); rintro e9 w8 ⟨rfl, rfl⟩))
          go_meet
          exact ⟨rfl, hC6⟩
      | false =>
        cases bg2 with
        | true =>
          have d0 : decide (0 < k) = false := decide_eq_false (fun h => by have := HBEG.out.2 rfl h; cases this)
          go_wp2_with (first | ((with_reducible refine hbf.mono ?_); rintro e9 w8 ⟨rfl, rfl⟩) | ((with_reducible refine hba.mono ?_); rintro e9 w8 ⟨rfl, rfl⟩))
          go_meet
          exact ⟨rfl, hC6⟩
        | false =>
          go_wp2_with (first | ((with_reducible refine hbf.mono ?_); rintro e9 w8 ⟨rfl, rfl⟩) | ((with_reducible refine hba.mono ?_); rintro e9 w8 ⟨rfl, rfl⟩))
          go_meet
          exact ⟨rfl, hC6⟩
    case rest =>
      obtain ⟨rfl, hC6⟩ := hcut
      obtain ⟨w7, hw7⟩ : ∃ w7 : World, w7 = wc := ⟨_, rfl⟩
      subst hw7
      replace x0 := hC6.cell x0 id
      replace x1 := hC6.cell x1 id
      replace x2 := hC6.cell x2 id
      replace x3 := hC6.cell x3 id
      replace HC := Lib.hid (HC.out.tr hC6)
      replace HLOG := Lib.hid (And.intro (log_fr HLOG.out.1 hC6) (log_fr HLOG.out.2 hC6))
      replace HVA := Lib.hid (HVA.out.fr hC6)
      replace HVL := Lib.hid (HVL.out.fr hC6)
      clear hC6 hsm dlt
      go_wp2
      go_loopw [89] (fun v wr => ∃ i : Nat, i ≤ nA ∧ v = .int .i64 i ∧ Chg (fun _ => False) w7 wr) (fun v _ => nA - (intOf v).toNat)
      case atStart => exact ⟨0, Nat.zero_le _, rfl, Chg.refl _ _⟩
      case round =>
        obtain ⟨i, hi, rfl, hC7⟩ := hrel
        have hlog1 := log_fr HLOG.out.1 hC7
        have hlog2 := log_fr HLOG.out.2 hC7
        have HC7 := Lib.hid hC7
        by_cases hlt : i < nA
        · have hd : decide (i < nA) = true := decide_eq_true hlt
          have HLT := Lib.hid hlt
          have hil : i < A.length := by rw [HNA.out.1]; exact hlt
          obtain ⟨bA, oA, e, hy⟩ := nts_at' (HVA.out.fr hC7) hil
          subst e
          have hyl := HLAW.out.2.2 A[i] (List.getElem_mem hil)
          have hyo := HAOK.out A[i] (List.getElem_mem hil)
          obtain ⟨y0, y1, y2, y3⟩ := hy
          obtain ⟨⟨yk, ya, yb, yn⟩, hye⟩ : ∃ y, A[i] = y := ⟨_, rfl⟩
          rw [hye] at y0 y1 y2 y3 hyl hyo
          simp only at y0 y1 y2 y3 hyl
          have hL2 := fl_ok HLOK.out.1 (by have := HLOK.out.2; have := HNB.out; omega)
          have hL1 := fl_ok HAOK.out (by have := HNA.out; have := HNB.out; omega)
          have HYO := Lib.hid hyo
          obtain ⟨⟨r2, p2⟩, hrp2⟩ : ∃ q : Int × Bool, q = ((fileOf (fil L).reverse 2 ya yb).getD 0, (fileOf (fil L).reverse 2 ya yb).isSome) := ⟨_, rfl⟩
          obtain ⟨⟨r3, p3⟩, hrp3⟩ : ∃ q : Int × Bool, q = ((fileOf (fil L).reverse 3 ya yb).getD 0, (fileOf (fil L).reverse 3 ya yb).isSome) := ⟨_, rfl⟩
          injection hrp2 with hr2 hp2
          injection hrp3 with hr3 hp3
          have HTI := Lib.hid (show ∀ w', Chg (fun _ => False) wr w' → Calls Try.prog 23 #[.pointer (some ⟨lb2, 0, none⟩), .int .i64 ya, .int .i64 yb] w' (fun e w'' => e = .returned (.tuple #[.int .i64 r2, .bool p2]) ∧ Chg (fun _ => False) w' w'') from fun w' h => by
            have h5 := tile_any (log_fr hlog2 h) hL2.1 ya yb hyo.1.2.1 hyo.1.2.2.1
            unfold FileV at h5
            rw [← hr2, ← hp2] at h5
            exact h5)
          have HRU := Lib.hid (show ∀ w', Chg (fun _ => False) wr w' → Calls Try.prog 19 #[.pointer (some ⟨lb2, 0, none⟩), .int .i64 ya, .int .i64 yb] w' (fun e w'' => e = .returned (.tuple #[.int .i64 r3, .bool p3]) ∧ Chg (fun _ => False) w' w'') from fun w' h => by
            have h5 := run_any (log_fr hlog2 h) hL2.1 ya yb hyo.1.2.1 hyo.1.2.2.1
            unfold FileV at h5
            rw [← hr3, ← hp3] at h5
            exact h5)
          have HT2 := Lib.hid (show ∀ w', Chg (fun _ => False) wr w' → Calls Try.prog 26 #[.pointer (some ⟨lb2, 0, none⟩)] w' (SaidN w' (stL (fil L).reverse)) from fun w' h => lsteps_any (log_fr hlog2 h) hL2.1 hL2.2.1)
          have HT1 := Lib.hid (show ∀ w', Chg (fun _ => False) wr w' → Calls Try.prog 26 #[.pointer (some ⟨lb1, 0, none⟩)] w' (SaidN w' (stL (fil A).reverse)) from fun w' h => lsteps_any (log_fr hlog1 h) hL1.1 hL1.2.1)
          have HD2 := Lib.hid (show ∀ w', Chg (fun _ => False) wr w' → Calls Try.prog 20 #[.pointer (some ⟨lb2, 0, none⟩), .int .i64 ya] w' (SaidN w' (dnL ya (fil L).reverse)) from fun w' h => ldone_any (log_fr hlog2 h) hL2.1 hL2.2.2 ya)
          have HD1 := Lib.hid (show ∀ w', Chg (fun _ => False) wr w' → Calls Try.prog 20 #[.pointer (some ⟨lb1, 0, none⟩), .int .i64 ya] w' (SaidN w' (dnL ya (fil A).reverse)) from fun w' h => ldone_any (log_fr hlog1 h) hL1.1 hL1.2.2 ya)
          have hst := HLAW.out.2.1
          have hdn := HLAW.out.1 ya
          generalize stL (fil L).reverse = T2 at *
          generalize stL (fil A).reverse = T1 at *
          generalize dnL ya (fil L).reverse = D2 at *
          generalize dnL ya (fil A).reverse = D1 at *
          have HLS := Lib.hid (show decide (T2 < T1) = false ∧ decide (D2 < D1) = false from ⟨decide_eq_false (by omega), decide_eq_false (by omega)⟩)
          have HPP := Lib.hid (show (yk = 2 → p2 = true) ∧ (yk = 3 → p3 = true) from ⟨fun h => by subst h; rw [hp2]; exact hyl (.inl rfl), fun h => by subst h; rw [hp3]; exact hyl (.inr rfl)⟩)
          have KP := Lib.hid (show ∀ w', Chg (fun _ => False) wr w' → (Chg (fun _ => False) wr w' ∧ w'.cell? ⟨bA, oA + i * 4, none⟩ = some (.int .i64 yk) ∧ w'.cell? ⟨bA, oA + i * 4 + 1, none⟩ = some (.int .i64 ya) ∧ w'.cell? ⟨bA, oA + i * 4 + 2, none⟩ = some (.int .i64 yb)) from fun w' h => ⟨h, h.cell y0 id, h.cell y1 id, h.cell y2 id⟩)
          have i1 : (0 : Int) ≤ (i : Int) := Int.natCast_nonneg i
          have i2 : (i : Int) < (nA : Int) := Int.ofNat_lt.2 hlt
          have HYC := Lib.hid (And.intro y0 y1)
          unfold SaidN at HT2 HT1 HD2 HD1
          clear hlt hi hC7 hlog1 hlog2 hil hyl hyo hye hL2 hL1 hr2 hp2 hr3 hp3 hst hdn y3
          go_wp2
          go_region_held3 (fun w' => (Chg (fun _ => False) wr w' ∧ w'.cell? ⟨bA, oA + i * 4, none⟩ = some (.int .i64 yk) ∧ w'.cell? ⟨bA, oA + i * 4 + 1, none⟩ = some (.int .i64 ya) ∧ w'.cell? ⟨bA, oA + i * 4 + 2, none⟩ = some (.int .i64 yb))) ((refine KP.out _ ?_; repeat (first | (with_reducible exact Chg.refl _ _) | (with_reducible assumption) | (with_reducible refine chg_drewT ?_) | (with_reducible refine Chg.tr ?_ hq1)))) (first | (go_at_call 23; (with_reducible refine (HTI.out _ (Chg.refl _ _).drew).mono ?_); rintro e9 q1 ⟨rfl, hq1⟩))
          all_goals
            rename_i hHd
            obtain ⟨hHd, z0, z1, z2⟩ := hHd
            clear y0 y1 y2
            go_wp2
            go_region_held3 (fun w' => (Chg (fun _ => False) wr w' ∧ w'.cell? ⟨bA, oA + i * 4, none⟩ = some (.int .i64 yk) ∧ w'.cell? ⟨bA, oA + i * 4 + 1, none⟩ = some (.int .i64 ya) ∧ w'.cell? ⟨bA, oA + i * 4 + 2, none⟩ = some (.int .i64 yb))) ((refine KP.out _ ?_; repeat (first | (with_reducible assumption) | (with_reducible refine chg_drewT ?_) | (with_reducible refine Chg.tr ?_ hq2)))) (first | (go_at_call 19; (with_reducible refine (HRU.out _ hHd.drew).mono ?_); rintro e9 q2 ⟨rfl, hq2⟩))
            all_goals
              clear hHd z0 z1 z2
              rename_i hHd
              obtain ⟨hHd, y0, y1, _⟩ := hHd
              have HKP := Lib.hid (show ∀ w', Chg (fun _ => False) wr w' → (Chg (fun _ => False) wr w' ∧ w'.cell? ⟨bA, oA + i * 4, none⟩ = some (.int .i64 yk) ∧ w'.cell? ⟨bA, oA + i * 4 + 1, none⟩ = some (.int .i64 ya)) from fun w' h => ⟨(KP.out w' h).1, (KP.out w' h).2.1, (KP.out w' h).2.2.1⟩)
              obtain ⟨dd1, dd2⟩ := HLS.out
              have hkw : IntKind.i64.wrap ((i : Int) + 1) = (i : Int) + 1 := IntWalk.i64_in _ (by have := HLT.out; have := HNA.out; have := HNB.out; omega)
              by_cases hk2 : yk = 2
              · have hp : p2 = true := HPP.out.1 hk2
                subst hp
                have e1 : (yk == 2) = true := beq_iff_eq.2 hk2
                have e2 : (yk == 3) = false := beq_eq_false_iff_ne.2 (by omega)
                clear hk2
                go_wp2_with fail
                as_aux_lemma =>
                  refine wp_region_held_drew (S := fun w' => Chg (fun _ => False) wr w' ∧ w'.cell? ⟨bA, oA + i * 4, none⟩ = some (.int .i64 yk) ∧ w'.cell? ⟨bA, oA + i * 4 + 1, none⟩ = some (.int .i64 ya)) (by kernel_rfl) (HKP.out _ (hHd.drew)) (fun hHeld => ?_)
                  refine' wpAnyH_take (i := 0) (oi := _) (v := .slice (some ⟨bA, oA, none⟩) nA cA) ?hiA0 (by kernel_rfl) (by kernel_rfl) (by kernel_rfl) ?hqA0 (Or.inl ⟨?hwA0, fun w hSw => ?hyA0⟩) hHeld ?hkA0
                  case hiA0 => (simp only [List.getElem?_toArray, List.getElem?_cons_zero]; rfl)
                  case hqA0 => exact fun _ _ _ h => h
                  case hwA0 => rfl
                  case hyA0 => first | (go_simp; done) | (go_simp; with_reducible rfl)
                  simp only [Act.put, List.setIfInBounds_toArray, List.set_cons_zero, List.set_cons_succ]
                  refine' wpAnyH_take (i := 1) (oi := _) (v := .int .i64 i) ?hiA1 (by kernel_rfl) (by kernel_rfl) (by kernel_rfl) ?hqA1 (Or.inl ⟨?hwA1, fun w hSw => ?hyA1⟩) hHeld ?hkA1
                  case hiA1 => (simp only [List.getElem?_toArray, List.getElem?_cons_succ, List.getElem?_cons_zero]; rfl)
                  case hqA1 => exact fun _ _ _ h => h
                  case hwA1 => rfl
                  case hyA1 => first | (go_simp; done) | (go_simp; with_reducible rfl)
                  simp only [Act.put, List.setIfInBounds_toArray, List.set_cons_zero, List.set_cons_succ]
                  refine' wpAnyH_take (i := 2) (oi := _) (v := .pointer (some ⟨bA, oA + i * 4, none⟩)) ?hiA2 (by kernel_rfl) (by kernel_rfl) (by kernel_rfl) ?hqA2 (Or.inl ⟨?hwA2, fun w hSw => ?hyA2⟩) hHeld ?hkA2
                  case hiA2 => (simp only [List.getElem?_toArray, List.getElem?_cons_succ, List.getElem?_cons_zero]; rfl)
                  case hqA2 => exact fun _ _ _ h => h
                  case hwA2 => rfl
                  case hyA2 => first | (go_simp; done) | (go_simp; with_reducible rfl)
                  simp only [Act.put, List.setIfInBounds_toArray, List.set_cons_zero, List.set_cons_succ]
                  refine' wpAnyH_take (i := 3) (oi := _) (v := .pointer (some ⟨bA, oA + i * 4, none⟩)) ?hiA3 (by kernel_rfl) (by kernel_rfl) (by kernel_rfl) ?hqA3 (Or.inl ⟨?hwA3, fun w hSw => ?hyA3⟩) hHeld ?hkA3
                  case hiA3 => (simp only [List.getElem?_toArray, List.getElem?_cons_succ, List.getElem?_cons_zero]; rfl)
                  case hqA3 => exact fun _ _ _ h => h
                  case hwA3 => rfl
                  case hyA3 => first | (go_simp; done) | (go_simp; with_reducible rfl)
                  simp only [Act.put, List.setIfInBounds_toArray, List.set_cons_zero, List.set_cons_succ]
                  refine' wpAnyH_take (i := 4) (oi := _) (v := .int .i64 yk) ?hiA4 (by kernel_rfl) (by kernel_rfl) (by kernel_rfl) ?hqA4 (Or.inl ⟨?hwA4, fun w hSw => ?hyA4⟩) hHeld ?hkA4
                  case hiA4 => (simp only [List.getElem?_toArray, List.getElem?_cons_succ, List.getElem?_cons_zero]; rfl)
                  case hqA4 => exact fun _ _ _ h => h
                  case hwA4 => rfl
                  case hyA4 => first | (go_simp; done) | (go_simp; with_reducible rfl)
                  simp only [Act.put, List.setIfInBounds_toArray, List.set_cons_zero, List.set_cons_succ]
                  refine' wpAnyH_take (i := 5) (oi := _) (v := .bool true) ?hiA5 (by kernel_rfl) (by kernel_rfl) (by kernel_rfl) ?hqA5 (Or.inl ⟨?hwA5, fun w hSw => ?hyA5⟩) hHeld ?hkA5
                  case hiA5 => (simp only [List.getElem?_toArray, List.getElem?_cons_succ, List.getElem?_cons_zero]; rfl)
                  case hqA5 => exact fun _ _ _ h => h
                  case hwA5 => rfl
                  case hyA5 => first | (go_simp; done) | (go_simp; with_reducible rfl)
                  simp only [Act.put, List.setIfInBounds_toArray, List.set_cons_zero, List.set_cons_succ]
                  refine' wpAnyH_take (i := 6) (oi := _) (v := .bool true) ?hiA6 (by kernel_rfl) (by kernel_rfl) (by kernel_rfl) ?hqA6 (Or.inl ⟨?hwA6, fun w hSw => ?hyA6⟩) hHeld ?hkA6
                  case hiA6 => (simp only [List.getElem?_toArray, List.getElem?_cons_succ, List.getElem?_cons_zero]; rfl)
                  case hqA6 => exact fun _ _ _ h => h
                  case hwA6 => rfl
                  case hyA6 => first | (go_simp; done) | (go_simp; with_reducible rfl)
                  simp only [Act.put, List.setIfInBounds_toArray, List.set_cons_zero, List.set_cons_succ]
                  refine' wpAnyH_take (i := 7) (oi := _) (v := .bool true) ?hiA7 (by kernel_rfl) (by kernel_rfl) (by kernel_rfl) ?hqA7 (Or.inl ⟨?hwA7, fun w hSw => ?hyA7⟩) hHeld ?hkA7
                  case hiA7 => (simp only [List.getElem?_toArray, List.getElem?_cons_succ, List.getElem?_cons_zero]; rfl)
                  case hqA7 => exact fun _ _ _ h => h
                  case hwA7 => rfl
                  case hyA7 => first | (go_simp; done) | (go_simp; with_reducible rfl)
                  simp only [Act.put, List.setIfInBounds_toArray, List.set_cons_zero, List.set_cons_succ]
                  refine' wpAnyH_take (i := 8) (oi := _) (v := .bool false) ?hiA8 (by kernel_rfl) (by kernel_rfl) (by kernel_rfl) ?hqA8 (Or.inl ⟨?hwA8, fun w hSw => ?hyA8⟩) hHeld ?hkA8
                  case hiA8 => (simp only [List.getElem?_toArray, List.getElem?_cons_succ, List.getElem?_cons_zero]; rfl)
                  case hqA8 => exact fun _ _ _ h => h
                  case hwA8 => rfl
                  case hyA8 => first | (go_simp; done) | (go_simp; with_reducible rfl)
                  simp only [Act.put, List.setIfInBounds_toArray, List.set_cons_zero, List.set_cons_succ]
                  refine' wpAnyH_take (i := 9) (oi := _) (v := .bool false) ?hiA9 (by kernel_rfl) (by kernel_rfl) (by kernel_rfl) ?hqA9 (Or.inl ⟨?hwA9, fun w hSw => ?hyA9⟩) hHeld ?hkA9
                  case hiA9 => (simp only [List.getElem?_toArray, List.getElem?_cons_succ, List.getElem?_cons_zero]; rfl)
                  case hqA9 => exact fun _ _ _ h => h
                  case hwA9 => rfl
                  case hyA9 => first | (go_simp; done) | (go_simp; with_reducible rfl)
                  simp only [Act.put, List.setIfInBounds_toArray, List.set_cons_zero, List.set_cons_succ]
                  refine' wpAnyH_take (i := 10) (oi := _) (v := .bool false) ?hiA10 (by kernel_rfl) (by kernel_rfl) (by kernel_rfl) ?hqA10 (Or.inl ⟨?hwA10, fun w hSw => ?hyA10⟩) hHeld ?hkA10
                  case hiA10 => (simp only [List.getElem?_toArray, List.getElem?_cons_succ, List.getElem?_cons_zero]; rfl)
                  case hqA10 => exact fun _ _ _ h => h
                  case hwA10 => rfl
                  case hyA10 => first | (go_simp; done) | (go_simp; with_reducible rfl)
                  simp only [Act.put, List.setIfInBounds_toArray, List.set_cons_zero, List.set_cons_succ]
                  refine' wpAnyH_take (i := 11) (oi := _) (v := .slice (some ⟨bA, oA, none⟩) nA cA) ?hiA11 (by kernel_rfl) (by kernel_rfl) (by kernel_rfl) ?hqA11 (Or.inl ⟨?hwA11, fun w hSw => ?hyA11⟩) hHeld ?hkA11
                  case hiA11 => (simp only [List.getElem?_toArray, List.getElem?_cons_succ, List.getElem?_cons_zero]; rfl)
                  case hqA11 => exact fun _ _ _ h => h
                  case hwA11 => rfl
                  case hyA11 => first | (go_simp; done) | (go_simp; with_reducible rfl)
                  simp only [Act.put, List.setIfInBounds_toArray, List.set_cons_zero, List.set_cons_succ]
                  refine' wpAnyH_take (i := 12) (oi := _) (v := .int .i64 i) ?hiA12 (by kernel_rfl) (by kernel_rfl) (by kernel_rfl) ?hqA12 (Or.inl ⟨?hwA12, fun w hSw => ?hyA12⟩) hHeld ?hkA12
                  case hiA12 => (simp only [List.getElem?_toArray, List.getElem?_cons_succ, List.getElem?_cons_zero]; rfl)
                  case hqA12 => exact fun _ _ _ h => h
                  case hwA12 => rfl
                  case hyA12 => first | (go_simp; done) | (go_simp; with_reducible rfl)
                  simp only [Act.put, List.setIfInBounds_toArray, List.set_cons_zero, List.set_cons_succ]
                  refine' wpAnyH_take (i := 13) (oi := _) (v := .pointer (some ⟨bA, oA + i * 4, none⟩)) ?hiA13 (by kernel_rfl) (by kernel_rfl) (by kernel_rfl) ?hqA13 (Or.inl ⟨?hwA13, fun w hSw => ?hyA13⟩) hHeld ?hkA13
                  case hiA13 => (simp only [List.getElem?_toArray, List.getElem?_cons_succ, List.getElem?_cons_zero]; rfl)
                  case hqA13 => exact fun _ _ _ h => h
                  case hwA13 => rfl
                  case hyA13 => first | (go_simp; done) | (go_simp; with_reducible rfl)
                  simp only [Act.put, List.setIfInBounds_toArray, List.set_cons_zero, List.set_cons_succ]
                  refine' wpAnyH_take (i := 14) (oi := _) (v := .pointer (some ⟨bA, oA + i * 4, none⟩)) ?hiA14 (by kernel_rfl) (by kernel_rfl) (by kernel_rfl) ?hqA14 (Or.inl ⟨?hwA14, fun w hSw => ?hyA14⟩) hHeld ?hkA14
                  case hiA14 => (simp only [List.getElem?_toArray, List.getElem?_cons_succ, List.getElem?_cons_zero]; rfl)
                  case hqA14 => exact fun _ _ _ h => h
                  case hwA14 => rfl
                  case hyA14 => first | (go_simp; done) | (go_simp; with_reducible rfl)
                  simp only [Act.put, List.setIfInBounds_toArray, List.set_cons_zero, List.set_cons_succ]
                  refine' wpAnyH_take (i := 15) (oi := _) (v := .int .i64 yk) ?hiA15 (by kernel_rfl) (by kernel_rfl) (by kernel_rfl) ?hqA15 (Or.inl ⟨?hwA15, fun w hSw => ?hyA15⟩) hHeld ?hkA15
                  case hiA15 => (simp only [List.getElem?_toArray, List.getElem?_cons_succ, List.getElem?_cons_zero]; rfl)
                  case hqA15 => exact fun _ _ _ h => h
                  case hwA15 => rfl
                  case hyA15 => first | (go_simp; done) | (go_simp; with_reducible rfl)
                  simp only [Act.put, List.setIfInBounds_toArray, List.set_cons_zero, List.set_cons_succ]
                  refine' wpAnyH_take (i := 16) (oi := _) (v := .bool false) ?hiA16 (by kernel_rfl) (by kernel_rfl) (by kernel_rfl) ?hqA16 (Or.inl ⟨?hwA16, fun w hSw => ?hyA16⟩) hHeld ?hkA16
                  case hiA16 => (simp only [List.getElem?_toArray, List.getElem?_cons_succ, List.getElem?_cons_zero]; rfl)
                  case hqA16 => exact fun _ _ _ h => h
                  case hwA16 => rfl
                  case hyA16 => first | (go_simp; done) | (go_simp; with_reducible rfl)
                  simp only [Act.put, List.setIfInBounds_toArray, List.set_cons_zero, List.set_cons_succ]
                  refine' wpAnyH_take (i := 17) (oi := _) (v := .bool false) ?hiA17 (by kernel_rfl) (by kernel_rfl) (by kernel_rfl) ?hqA17 (Or.inl ⟨?hwA17, fun w hSw => ?hyA17⟩) hHeld ?hkA17
                  case hiA17 => (simp only [List.getElem?_toArray, List.getElem?_cons_succ, List.getElem?_cons_zero]; rfl)
                  case hqA17 => exact fun _ _ _ h => h
                  case hwA17 => rfl
                  case hyA17 => first | (go_simp; done) | (go_simp; with_reducible rfl)
                  simp only [Act.put, List.setIfInBounds_toArray, List.set_cons_zero, List.set_cons_succ]
                  refine' wpAnyH_take (i := 18) (oi := _) (v := undef) ?hiA18 (by kernel_rfl) (by kernel_rfl) (by kernel_rfl) ?hqA18 (Or.inr ⟨?hwA18, rfl⟩) hHeld ?hkA18
                  case hiA18 => (simp only [List.getElem?_toArray, List.getElem?_cons_succ, List.getElem?_cons_zero]; rfl)
                  case hqA18 => exact fun _ _ _ h => h
                  case hwA18 => rfl
                  simp only [Act.put, List.setIfInBounds_toArray, List.set_cons_zero, List.set_cons_succ]
                  refine' wpAnyH_take (i := 19) (oi := _) (v := undef) ?hiA19 (by kernel_rfl) (by kernel_rfl) (by kernel_rfl) ?hqA19 (Or.inr ⟨?hwA19, rfl⟩) hHeld ?hkA19
                  case hiA19 => (simp only [List.getElem?_toArray, List.getElem?_cons_succ, List.getElem?_cons_zero]; rfl)
                  case hqA19 => exact fun _ _ _ h => h
                  case hwA19 => rfl
                  simp only [Act.put, List.setIfInBounds_toArray, List.set_cons_zero, List.set_cons_succ]
                  refine' wpAnyH_take (i := 20) (oi := _) (v := .bool false) ?hiA20 (by kernel_rfl) (by kernel_rfl) (by kernel_rfl) ?hqA20 (Or.inl ⟨?hwA20, fun w hSw => ?hyA20⟩) hHeld ?hkA20
                  case hiA20 => (simp only [List.getElem?_toArray, List.getElem?_cons_succ, List.getElem?_cons_zero]; rfl)
                  case hqA20 => exact fun _ _ _ h => h
                  case hwA20 => rfl
                  case hyA20 => first | (go_simp; done) | (go_simp; with_reducible rfl)
                  simp only [Act.put, List.setIfInBounds_toArray, List.set_cons_zero, List.set_cons_succ]
                  refine' wpAnyH_take (i := 21) (oi := _) (v := .bool false) ?hiA21 (by kernel_rfl) (by kernel_rfl) (by kernel_rfl) ?hqA21 (Or.inl ⟨?hwA21, fun w hSw => ?hyA21⟩) hHeld ?hkA21
                  case hiA21 => (simp only [List.getElem?_toArray, List.getElem?_cons_succ, List.getElem?_cons_zero]; rfl)
                  case hqA21 => exact fun _ _ _ h => h
                  case hwA21 => rfl
                  case hyA21 => first | (go_simp; done) | (go_simp; with_reducible rfl)
                  simp only [Act.put, List.setIfInBounds_toArray, List.set_cons_zero, List.set_cons_succ]
                  refine' wpAnyH_take (i := 22) (oi := _) (v := .bool false) ?hiA22 (by kernel_rfl) (by kernel_rfl) (by kernel_rfl) ?hqA22 (Or.inl ⟨?hwA22, fun w hSw => ?hyA22⟩) hHeld ?hkA22
                  case hiA22 => (simp only [List.getElem?_toArray, List.getElem?_cons_succ, List.getElem?_cons_zero]; rfl)
                  case hqA22 => exact fun _ _ _ h => h
                  case hwA22 => rfl
                  case hyA22 => first | (go_simp; done) | (go_simp; with_reducible rfl)
                  simp only [Act.put, List.setIfInBounds_toArray, List.set_cons_zero, List.set_cons_succ]
                  refine' wpAnyH_take (i := 23) (oi := _) (v := .pointer (some ⟨lb2, 0, none⟩)) ?hiA23 (by kernel_rfl) (by kernel_rfl) (by kernel_rfl) ?hqA23 (Or.inl ⟨?hwA23, fun w hSw => ?hyA23⟩) hHeld ?hkA23
                  case hiA23 => (simp only [List.getElem?_toArray, List.getElem?_cons_succ, List.getElem?_cons_zero]; rfl)
                  case hqA23 => exact fun _ _ _ h => h
                  case hwA23 => rfl
                  case hyA23 => first | (go_simp; done) | (go_simp; with_reducible rfl)
                  simp only [Act.put, List.setIfInBounds_toArray, List.set_cons_zero, List.set_cons_succ]
                  refine' wpAnyH_take (i := 25) (oi := _) (v := .pointer (some ⟨lb1, 0, none⟩)) ?hiA25 (by kernel_rfl) (by kernel_rfl) (by kernel_rfl) ?hqA25 (Or.inl ⟨?hwA25, fun w hSw => ?hyA25⟩) hHeld ?hkA25
                  case hiA25 => (simp only [List.getElem?_toArray, List.getElem?_cons_succ, List.getElem?_cons_zero]; rfl)
                  case hqA25 => exact fun _ _ _ h => h
                  case hwA25 => rfl
                  case hyA25 => first | (go_simp; done) | (go_simp; with_reducible rfl)
                  simp only [Act.put, List.setIfInBounds_toArray, List.set_cons_zero, List.set_cons_succ]
                  refine wpAnyH_ready (rs := [24]) (by kernel_rfl) (by simp) ?_
                  refine AllReadyH.cons rfl (fun K hK => ?_) AllReadyH.nil
                  go_simp
                  go_at_call 26
                  refine (HT2.out _ (hHd.drew)).mono ?_
                  rintro e9 u1 ⟨rfl, hU1⟩
                  replace hU1 := hHd.drew.tr hU1
                  refine hK.out _ _ (HKP.out _ hU1) (fun hHeld => ?_)
                  clear hK K
                  refine wpAnyH_ready (rs := [26]) (by kernel_rfl) (by simp) ?_
                  refine AllReadyH.cons rfl (fun K hK => ?_) AllReadyH.nil
                  go_simp
                  go_at_call 26
                  refine (HT1.out _ hU1).mono ?_
                  rintro e9 u2 ⟨rfl, hU2⟩
                  replace hU2 := hU1.tr hU2
                  refine hK.out _ _ (HKP.out _ hU2) (fun hHeld => ?_)
                  clear hK K
                  refine' wpAnyH_take (i := 27) (oi := _) (v := .bool false) ?hiA27 (by kernel_rfl) (by kernel_rfl) (by kernel_rfl) ?hqA27 (Or.inl ⟨?hwA27, fun w hSw => ?hyA27⟩) hHeld ?hkA27
                  case hiA27 => (simp only [List.getElem?_toArray, List.getElem?_cons_succ, List.getElem?_cons_zero]; rfl)
                  case hqA27 => exact fun _ _ _ h => h
                  case hwA27 => rfl
                  case hyA27 => first | (go_simp; done) | (go_simp; with_reducible rfl)
                  simp only [Act.put, List.setIfInBounds_toArray, List.set_cons_zero, List.set_cons_succ]
                  refine' wpAnyH_take (i := 28) (oi := _) (v := .bool false) ?hiA28 (by kernel_rfl) (by kernel_rfl) (by kernel_rfl) ?hqA28 (Or.inl ⟨?hwA28, fun w hSw => ?hyA28⟩) hHeld ?hkA28
                  case hiA28 => (simp only [List.getElem?_toArray, List.getElem?_cons_succ, List.getElem?_cons_zero]; rfl)
                  case hqA28 => exact fun _ _ _ h => h
                  case hwA28 => rfl
                  case hyA28 => first | (go_simp; done) | (go_simp; with_reducible rfl)
                  simp only [Act.put, List.setIfInBounds_toArray, List.set_cons_zero, List.set_cons_succ]
                  refine' wpAnyH_take (i := 29) (oi := _) (v := .bool false) ?hiA29 (by kernel_rfl) (by kernel_rfl) (by kernel_rfl) ?hqA29 (Or.inl ⟨?hwA29, fun w hSw => ?hyA29⟩) hHeld ?hkA29
                  case hiA29 => (simp only [List.getElem?_toArray, List.getElem?_cons_succ, List.getElem?_cons_zero]; rfl)
                  case hqA29 => exact fun _ _ _ h => h
                  case hwA29 => rfl
                  case hyA29 => first | (go_simp; done) | (go_simp; with_reducible rfl)
                  simp only [Act.put, List.setIfInBounds_toArray, List.set_cons_zero, List.set_cons_succ]
                  refine' wpAnyH_take (i := 30) (oi := _) (v := .pointer (some ⟨lb2, 0, none⟩)) ?hiA30 (by kernel_rfl) (by kernel_rfl) (by kernel_rfl) ?hqA30 (Or.inl ⟨?hwA30, fun w hSw => ?hyA30⟩) hHeld ?hkA30
                  case hiA30 => (simp only [List.getElem?_toArray, List.getElem?_cons_succ, List.getElem?_cons_zero]; rfl)
                  case hqA30 => exact fun _ _ _ h => h
                  case hwA30 => rfl
                  case hyA30 => first | (go_simp; done) | (go_simp; with_reducible rfl)
                  simp only [Act.put, List.setIfInBounds_toArray, List.set_cons_zero, List.set_cons_succ]
                  refine' wpAnyH_take (i := 31) (oi := _) (v := .slice (some ⟨bA, oA, none⟩) nA cA) ?hiA31 (by kernel_rfl) (by kernel_rfl) (by kernel_rfl) ?hqA31 (Or.inl ⟨?hwA31, fun w hSw => ?hyA31⟩) hHeld ?hkA31
                  case hiA31 => (simp only [List.getElem?_toArray, List.getElem?_cons_succ, List.getElem?_cons_zero]; rfl)
                  case hqA31 => exact fun _ _ _ h => h
                  case hwA31 => rfl
                  case hyA31 => first | (go_simp; done) | (go_simp; with_reducible rfl)
                  simp only [Act.put, List.setIfInBounds_toArray, List.set_cons_zero, List.set_cons_succ]
                  refine' wpAnyH_take (i := 32) (oi := _) (v := .int .i64 i) ?hiA32 (by kernel_rfl) (by kernel_rfl) (by kernel_rfl) ?hqA32 (Or.inl ⟨?hwA32, fun w hSw => ?hyA32⟩) hHeld ?hkA32
                  case hiA32 => (simp only [List.getElem?_toArray, List.getElem?_cons_succ, List.getElem?_cons_zero]; rfl)
                  case hqA32 => exact fun _ _ _ h => h
                  case hwA32 => rfl
                  case hyA32 => first | (go_simp; done) | (go_simp; with_reducible rfl)
                  simp only [Act.put, List.setIfInBounds_toArray, List.set_cons_zero, List.set_cons_succ]
                  refine' wpAnyH_take (i := 33) (oi := _) (v := .pointer (some ⟨bA, oA + i * 4, none⟩)) ?hiA33 (by kernel_rfl) (by kernel_rfl) (by kernel_rfl) ?hqA33 (Or.inl ⟨?hwA33, fun w hSw => ?hyA33⟩) hHeld ?hkA33
                  case hiA33 => (simp only [List.getElem?_toArray, List.getElem?_cons_succ, List.getElem?_cons_zero]; rfl)
                  case hqA33 => exact fun _ _ _ h => h
                  case hwA33 => rfl
                  case hyA33 => first | (go_simp; done) | (go_simp; with_reducible rfl)
                  simp only [Act.put, List.setIfInBounds_toArray, List.set_cons_zero, List.set_cons_succ]
                  refine' wpAnyH_take (i := 34) (oi := _) (v := .pointer (some ⟨bA, oA + i * 4 + 1, none⟩)) ?hiA34 (by kernel_rfl) (by kernel_rfl) (by kernel_rfl) ?hqA34 (Or.inl ⟨?hwA34, fun w hSw => ?hyA34⟩) hHeld ?hkA34
                  case hiA34 => (simp only [List.getElem?_toArray, List.getElem?_cons_succ, List.getElem?_cons_zero]; rfl)
                  case hqA34 => exact fun _ _ _ h => h
                  case hwA34 => rfl
                  case hyA34 => first | (go_simp; done) | (go_simp; with_reducible rfl)
                  simp only [Act.put, List.setIfInBounds_toArray, List.set_cons_zero, List.set_cons_succ]
                  refine' wpAnyH_take (i := 35) (oi := _) (v := .int .i64 ya) ?hiA35 (by kernel_rfl) (by kernel_rfl) (by kernel_rfl) ?hqA35 (Or.inl ⟨?hwA35, fun w hSw => ?hyA35⟩) hHeld ?hkA35
                  case hiA35 => (simp only [List.getElem?_toArray, List.getElem?_cons_succ, List.getElem?_cons_zero]; rfl)
                  case hqA35 => exact fun _ _ _ h => h
                  case hwA35 => rfl
                  case hyA35 => first | (go_simp; done) | (go_simp; with_reducible rfl)
                  simp only [Act.put, List.setIfInBounds_toArray, List.set_cons_zero, List.set_cons_succ]
                  refine' wpAnyH_take (i := 37) (oi := _) (v := .pointer (some ⟨lb1, 0, none⟩)) ?hiA37 (by kernel_rfl) (by kernel_rfl) (by kernel_rfl) ?hqA37 (Or.inl ⟨?hwA37, fun w hSw => ?hyA37⟩) hHeld ?hkA37
                  case hiA37 => (simp only [List.getElem?_toArray, List.getElem?_cons_succ, List.getElem?_cons_zero]; rfl)
                  case hqA37 => exact fun _ _ _ h => h
                  case hwA37 => rfl
                  case hyA37 => first | (go_simp; done) | (go_simp; with_reducible rfl)
                  simp only [Act.put, List.setIfInBounds_toArray, List.set_cons_zero, List.set_cons_succ]
                  refine' wpAnyH_take (i := 38) (oi := _) (v := .slice (some ⟨bA, oA, none⟩) nA cA) ?hiA38 (by kernel_rfl) (by kernel_rfl) (by kernel_rfl) ?hqA38 (Or.inl ⟨?hwA38, fun w hSw => ?hyA38⟩) hHeld ?hkA38
                  case hiA38 => (simp only [List.getElem?_toArray, List.getElem?_cons_succ, List.getElem?_cons_zero]; rfl)
                  case hqA38 => exact fun _ _ _ h => h
                  case hwA38 => rfl
                  case hyA38 => first | (go_simp; done) | (go_simp; with_reducible rfl)
                  simp only [Act.put, List.setIfInBounds_toArray, List.set_cons_zero, List.set_cons_succ]
                  refine' wpAnyH_take (i := 39) (oi := _) (v := .int .i64 i) ?hiA39 (by kernel_rfl) (by kernel_rfl) (by kernel_rfl) ?hqA39 (Or.inl ⟨?hwA39, fun w hSw => ?hyA39⟩) hHeld ?hkA39
                  case hiA39 => (simp only [List.getElem?_toArray, List.getElem?_cons_succ, List.getElem?_cons_zero]; rfl)
                  case hqA39 => exact fun _ _ _ h => h
                  case hwA39 => rfl
                  case hyA39 => first | (go_simp; done) | (go_simp; with_reducible rfl)
                  simp only [Act.put, List.setIfInBounds_toArray, List.set_cons_zero, List.set_cons_succ]
                  refine' wpAnyH_take (i := 40) (oi := _) (v := .pointer (some ⟨bA, oA + i * 4, none⟩)) ?hiA40 (by kernel_rfl) (by kernel_rfl) (by kernel_rfl) ?hqA40 (Or.inl ⟨?hwA40, fun w hSw => ?hyA40⟩) hHeld ?hkA40
                  case hiA40 => (simp only [List.getElem?_toArray, List.getElem?_cons_succ, List.getElem?_cons_zero]; rfl)
                  case hqA40 => exact fun _ _ _ h => h
                  case hwA40 => rfl
                  case hyA40 => first | (go_simp; done) | (go_simp; with_reducible rfl)
                  simp only [Act.put, List.setIfInBounds_toArray, List.set_cons_zero, List.set_cons_succ]
                  refine' wpAnyH_take (i := 41) (oi := _) (v := .pointer (some ⟨bA, oA + i * 4 + 1, none⟩)) ?hiA41 (by kernel_rfl) (by kernel_rfl) (by kernel_rfl) ?hqA41 (Or.inl ⟨?hwA41, fun w hSw => ?hyA41⟩) hHeld ?hkA41
                  case hiA41 => (simp only [List.getElem?_toArray, List.getElem?_cons_succ, List.getElem?_cons_zero]; rfl)
                  case hqA41 => exact fun _ _ _ h => h
                  case hwA41 => rfl
                  case hyA41 => first | (go_simp; done) | (go_simp; with_reducible rfl)
                  simp only [Act.put, List.setIfInBounds_toArray, List.set_cons_zero, List.set_cons_succ]
                  refine' wpAnyH_take (i := 42) (oi := _) (v := .int .i64 ya) ?hiA42 (by kernel_rfl) (by kernel_rfl) (by kernel_rfl) ?hqA42 (Or.inl ⟨?hwA42, fun w hSw => ?hyA42⟩) hHeld ?hkA42
                  case hiA42 => (simp only [List.getElem?_toArray, List.getElem?_cons_succ, List.getElem?_cons_zero]; rfl)
                  case hqA42 => exact fun _ _ _ h => h
                  case hwA42 => rfl
                  case hyA42 => first | (go_simp; done) | (go_simp; with_reducible rfl)
                  simp only [Act.put, List.setIfInBounds_toArray, List.set_cons_zero, List.set_cons_succ]
                  refine wpAnyH_ready (rs := [36]) (by kernel_rfl) (by simp) ?_
                  refine AllReadyH.cons rfl (fun K hK => ?_) AllReadyH.nil
                  go_simp
                  go_at_call 20
                  refine (HD2.out _ hU2).mono ?_
                  rintro e9 u3 ⟨rfl, hU3⟩
                  replace hU3 := hU2.tr hU3
                  refine hK.out _ _ (HKP.out _ hU3) (fun hHeld => ?_)
                  clear hK K
                  refine wpAnyH_ready (rs := [43]) (by kernel_rfl) (by simp) ?_
                  refine AllReadyH.cons rfl (fun K hK => ?_) AllReadyH.nil
                  go_simp
                  go_at_call 20
                  refine (HD1.out _ hU3).mono ?_
                  rintro e9 u4 ⟨rfl, hU4⟩
                  replace hU4 := hU3.tr hU4
                  refine hK.out _ _ (HKP.out _ hU4) (fun hHeld => ?_)
                  clear hK K
                  refine' wpAnyH_take (i := 44) (oi := _) (v := .bool false) ?hiA44 (by kernel_rfl) (by kernel_rfl) (by kernel_rfl) ?hqA44 (Or.inl ⟨?hwA44, fun w hSw => ?hyA44⟩) hHeld ?hkA44
                  case hiA44 => (simp only [List.getElem?_toArray, List.getElem?_cons_succ, List.getElem?_cons_zero]; rfl)
                  case hqA44 => exact fun _ _ _ h => h
                  case hwA44 => rfl
                  case hyA44 => first | (go_simp; done) | (go_simp; with_reducible rfl)
                  simp only [Act.put, List.setIfInBounds_toArray, List.set_cons_zero, List.set_cons_succ]
                  refine' wpAnyH_take (i := 45) (oi := _) (v := .bool false) ?hiA45 (by kernel_rfl) (by kernel_rfl) (by kernel_rfl) ?hqA45 (Or.inl ⟨?hwA45, fun w hSw => ?hyA45⟩) hHeld ?hkA45
                  case hiA45 => (simp only [List.getElem?_toArray, List.getElem?_cons_succ, List.getElem?_cons_zero]; rfl)
                  case hqA45 => exact fun _ _ _ h => h
                  case hwA45 => rfl
                  case hyA45 => first | (go_simp; done) | (go_simp; with_reducible rfl)
                  simp only [Act.put, List.setIfInBounds_toArray, List.set_cons_zero, List.set_cons_succ]
                  refine wpAnyH_done (by kernel_rfl) ?_ _
                  clear hHeld
                  go_wp2
                  go_roundw
                  case rel => exact ⟨i + 1, HLT.out, congrArg (Value.int IntKind.i64) (Int.natCast_succ i).symm, HC7.out.tr hU4⟩
                  case measure => exact fit_meas i nA HLT.out
              · have e1 : (yk == 2) = false := beq_eq_false_iff_ne.2 hk2
                by_cases hk3 : yk = 3
                · have hp : p3 = true := HPP.out.2 hk3
                  subst hp
                  have e2 : (yk == 3) = true := beq_iff_eq.2 hk3
                  clear hk2 hk3
                  go_wp2_with fail
                  as_aux_lemma =>
                    refine wp_region_held_drew (S := fun w' => Chg (fun _ => False) wr w' ∧ w'.cell? ⟨bA, oA + i * 4, none⟩ = some (.int .i64 yk) ∧ w'.cell? ⟨bA, oA + i * 4 + 1, none⟩ = some (.int .i64 ya)) (by kernel_rfl) (HKP.out _ (hHd.drew)) (fun hHeld => ?_)
                    refine' wpAnyH_take (i := 0) (oi := _) (v := .slice (some ⟨bA, oA, none⟩) nA cA) ?hiB0 (by kernel_rfl) (by kernel_rfl) (by kernel_rfl) ?hqB0 (Or.inl ⟨?hwB0, fun w hSw => ?hyB0⟩) hHeld ?hkB0
                    case hiB0 => (simp only [List.getElem?_toArray, List.getElem?_cons_zero]; rfl)
                    case hqB0 => exact fun _ _ _ h => h
                    case hwB0 => rfl
                    case hyB0 => first | (go_simp; done) | (go_simp; with_reducible rfl)
                    simp only [Act.put, List.setIfInBounds_toArray, List.set_cons_zero, List.set_cons_succ]
                    refine' wpAnyH_take (i := 1) (oi := _) (v := .int .i64 i) ?hiB1 (by kernel_rfl) (by kernel_rfl) (by kernel_rfl) ?hqB1 (Or.inl ⟨?hwB1, fun w hSw => ?hyB1⟩) hHeld ?hkB1
                    case hiB1 => (simp only [List.getElem?_toArray, List.getElem?_cons_succ, List.getElem?_cons_zero]; rfl)
                    case hqB1 => exact fun _ _ _ h => h
                    case hwB1 => rfl
                    case hyB1 => first | (go_simp; done) | (go_simp; with_reducible rfl)
                    simp only [Act.put, List.setIfInBounds_toArray, List.set_cons_zero, List.set_cons_succ]
                    refine' wpAnyH_take (i := 2) (oi := _) (v := .pointer (some ⟨bA, oA + i * 4, none⟩)) ?hiB2 (by kernel_rfl) (by kernel_rfl) (by kernel_rfl) ?hqB2 (Or.inl ⟨?hwB2, fun w hSw => ?hyB2⟩) hHeld ?hkB2
                    case hiB2 => (simp only [List.getElem?_toArray, List.getElem?_cons_succ, List.getElem?_cons_zero]; rfl)
                    case hqB2 => exact fun _ _ _ h => h
                    case hwB2 => rfl
                    case hyB2 => first | (go_simp; done) | (go_simp; with_reducible rfl)
                    simp only [Act.put, List.setIfInBounds_toArray, List.set_cons_zero, List.set_cons_succ]
                    refine' wpAnyH_take (i := 3) (oi := _) (v := .pointer (some ⟨bA, oA + i * 4, none⟩)) ?hiB3 (by kernel_rfl) (by kernel_rfl) (by kernel_rfl) ?hqB3 (Or.inl ⟨?hwB3, fun w hSw => ?hyB3⟩) hHeld ?hkB3
                    case hiB3 => (simp only [List.getElem?_toArray, List.getElem?_cons_succ, List.getElem?_cons_zero]; rfl)
                    case hqB3 => exact fun _ _ _ h => h
                    case hwB3 => rfl
                    case hyB3 => first | (go_simp; done) | (go_simp; with_reducible rfl)
                    simp only [Act.put, List.setIfInBounds_toArray, List.set_cons_zero, List.set_cons_succ]
                    refine' wpAnyH_take (i := 4) (oi := _) (v := .int .i64 yk) ?hiB4 (by kernel_rfl) (by kernel_rfl) (by kernel_rfl) ?hqB4 (Or.inl ⟨?hwB4, fun w hSw => ?hyB4⟩) hHeld ?hkB4
                    case hiB4 => (simp only [List.getElem?_toArray, List.getElem?_cons_succ, List.getElem?_cons_zero]; rfl)
                    case hqB4 => exact fun _ _ _ h => h
                    case hwB4 => rfl
                    case hyB4 => first | (go_simp; done) | (go_simp; with_reducible rfl)
                    simp only [Act.put, List.setIfInBounds_toArray, List.set_cons_zero, List.set_cons_succ]
                    refine' wpAnyH_take (i := 5) (oi := _) (v := .bool false) ?hiB5 (by kernel_rfl) (by kernel_rfl) (by kernel_rfl) ?hqB5 (Or.inl ⟨?hwB5, fun w hSw => ?hyB5⟩) hHeld ?hkB5
                    case hiB5 => (simp only [List.getElem?_toArray, List.getElem?_cons_succ, List.getElem?_cons_zero]; rfl)
                    case hqB5 => exact fun _ _ _ h => h
                    case hwB5 => rfl
                    case hyB5 => first | (go_simp; done) | (go_simp; with_reducible rfl)
                    simp only [Act.put, List.setIfInBounds_toArray, List.set_cons_zero, List.set_cons_succ]
                    refine' wpAnyH_take (i := 6) (oi := _) (v := .bool false) ?hiB6 (by kernel_rfl) (by kernel_rfl) (by kernel_rfl) ?hqB6 (Or.inl ⟨?hwB6, fun w hSw => ?hyB6⟩) hHeld ?hkB6
                    case hiB6 => (simp only [List.getElem?_toArray, List.getElem?_cons_succ, List.getElem?_cons_zero]; rfl)
                    case hqB6 => exact fun _ _ _ h => h
                    case hwB6 => rfl
                    case hyB6 => first | (go_simp; done) | (go_simp; with_reducible rfl)
                    simp only [Act.put, List.setIfInBounds_toArray, List.set_cons_zero, List.set_cons_succ]
                    refine' wpAnyH_take (i := 7) (oi := _) (v := undef) ?hiB7 (by kernel_rfl) (by kernel_rfl) (by kernel_rfl) ?hqB7 (Or.inr ⟨?hwB7, rfl⟩) hHeld ?hkB7
                    case hiB7 => (simp only [List.getElem?_toArray, List.getElem?_cons_succ, List.getElem?_cons_zero]; rfl)
                    case hqB7 => exact fun _ _ _ h => h
                    case hwB7 => rfl
                    simp only [Act.put, List.setIfInBounds_toArray, List.set_cons_zero, List.set_cons_succ]
                    refine' wpAnyH_take (i := 8) (oi := _) (v := undef) ?hiB8 (by kernel_rfl) (by kernel_rfl) (by kernel_rfl) ?hqB8 (Or.inr ⟨?hwB8, rfl⟩) hHeld ?hkB8
                    case hiB8 => (simp only [List.getElem?_toArray, List.getElem?_cons_succ, List.getElem?_cons_zero]; rfl)
                    case hqB8 => exact fun _ _ _ h => h
                    case hwB8 => rfl
                    simp only [Act.put, List.setIfInBounds_toArray, List.set_cons_zero, List.set_cons_succ]
                    refine' wpAnyH_take (i := 9) (oi := _) (v := .bool false) ?hiB9 (by kernel_rfl) (by kernel_rfl) (by kernel_rfl) ?hqB9 (Or.inl ⟨?hwB9, fun w hSw => ?hyB9⟩) hHeld ?hkB9
                    case hiB9 => (simp only [List.getElem?_toArray, List.getElem?_cons_succ, List.getElem?_cons_zero]; rfl)
                    case hqB9 => exact fun _ _ _ h => h
                    case hwB9 => rfl
                    case hyB9 => first | (go_simp; done) | (go_simp; with_reducible rfl)
                    simp only [Act.put, List.setIfInBounds_toArray, List.set_cons_zero, List.set_cons_succ]
                    refine' wpAnyH_take (i := 10) (oi := _) (v := .bool false) ?hiB10 (by kernel_rfl) (by kernel_rfl) (by kernel_rfl) ?hqB10 (Or.inl ⟨?hwB10, fun w hSw => ?hyB10⟩) hHeld ?hkB10
                    case hiB10 => (simp only [List.getElem?_toArray, List.getElem?_cons_succ, List.getElem?_cons_zero]; rfl)
                    case hqB10 => exact fun _ _ _ h => h
                    case hwB10 => rfl
                    case hyB10 => first | (go_simp; done) | (go_simp; with_reducible rfl)
                    simp only [Act.put, List.setIfInBounds_toArray, List.set_cons_zero, List.set_cons_succ]
                    refine' wpAnyH_take (i := 11) (oi := _) (v := .slice (some ⟨bA, oA, none⟩) nA cA) ?hiB11 (by kernel_rfl) (by kernel_rfl) (by kernel_rfl) ?hqB11 (Or.inl ⟨?hwB11, fun w hSw => ?hyB11⟩) hHeld ?hkB11
                    case hiB11 => (simp only [List.getElem?_toArray, List.getElem?_cons_succ, List.getElem?_cons_zero]; rfl)
                    case hqB11 => exact fun _ _ _ h => h
                    case hwB11 => rfl
                    case hyB11 => first | (go_simp; done) | (go_simp; with_reducible rfl)
                    simp only [Act.put, List.setIfInBounds_toArray, List.set_cons_zero, List.set_cons_succ]
                    refine' wpAnyH_take (i := 12) (oi := _) (v := .int .i64 i) ?hiB12 (by kernel_rfl) (by kernel_rfl) (by kernel_rfl) ?hqB12 (Or.inl ⟨?hwB12, fun w hSw => ?hyB12⟩) hHeld ?hkB12
                    case hiB12 => (simp only [List.getElem?_toArray, List.getElem?_cons_succ, List.getElem?_cons_zero]; rfl)
                    case hqB12 => exact fun _ _ _ h => h
                    case hwB12 => rfl
                    case hyB12 => first | (go_simp; done) | (go_simp; with_reducible rfl)
                    simp only [Act.put, List.setIfInBounds_toArray, List.set_cons_zero, List.set_cons_succ]
                    refine' wpAnyH_take (i := 13) (oi := _) (v := .pointer (some ⟨bA, oA + i * 4, none⟩)) ?hiB13 (by kernel_rfl) (by kernel_rfl) (by kernel_rfl) ?hqB13 (Or.inl ⟨?hwB13, fun w hSw => ?hyB13⟩) hHeld ?hkB13
                    case hiB13 => (simp only [List.getElem?_toArray, List.getElem?_cons_succ, List.getElem?_cons_zero]; rfl)
                    case hqB13 => exact fun _ _ _ h => h
                    case hwB13 => rfl
                    case hyB13 => first | (go_simp; done) | (go_simp; with_reducible rfl)
                    simp only [Act.put, List.setIfInBounds_toArray, List.set_cons_zero, List.set_cons_succ]
                    refine' wpAnyH_take (i := 14) (oi := _) (v := .pointer (some ⟨bA, oA + i * 4, none⟩)) ?hiB14 (by kernel_rfl) (by kernel_rfl) (by kernel_rfl) ?hqB14 (Or.inl ⟨?hwB14, fun w hSw => ?hyB14⟩) hHeld ?hkB14
                    case hiB14 => (simp only [List.getElem?_toArray, List.getElem?_cons_succ, List.getElem?_cons_zero]; rfl)
                    case hqB14 => exact fun _ _ _ h => h
                    case hwB14 => rfl
                    case hyB14 => first | (go_simp; done) | (go_simp; with_reducible rfl)
                    simp only [Act.put, List.setIfInBounds_toArray, List.set_cons_zero, List.set_cons_succ]
                    refine' wpAnyH_take (i := 15) (oi := _) (v := .int .i64 yk) ?hiB15 (by kernel_rfl) (by kernel_rfl) (by kernel_rfl) ?hqB15 (Or.inl ⟨?hwB15, fun w hSw => ?hyB15⟩) hHeld ?hkB15
                    case hiB15 => (simp only [List.getElem?_toArray, List.getElem?_cons_succ, List.getElem?_cons_zero]; rfl)
                    case hqB15 => exact fun _ _ _ h => h
                    case hwB15 => rfl
                    case hyB15 => first | (go_simp; done) | (go_simp; with_reducible rfl)
                    simp only [Act.put, List.setIfInBounds_toArray, List.set_cons_zero, List.set_cons_succ]
                    refine' wpAnyH_take (i := 16) (oi := _) (v := .bool true) ?hiB16 (by kernel_rfl) (by kernel_rfl) (by kernel_rfl) ?hqB16 (Or.inl ⟨?hwB16, fun w hSw => ?hyB16⟩) hHeld ?hkB16
                    case hiB16 => (simp only [List.getElem?_toArray, List.getElem?_cons_succ, List.getElem?_cons_zero]; rfl)
                    case hqB16 => exact fun _ _ _ h => h
                    case hwB16 => rfl
                    case hyB16 => first | (go_simp; done) | (go_simp; with_reducible rfl)
                    simp only [Act.put, List.setIfInBounds_toArray, List.set_cons_zero, List.set_cons_succ]
                    refine' wpAnyH_take (i := 17) (oi := _) (v := .bool true) ?hiB17 (by kernel_rfl) (by kernel_rfl) (by kernel_rfl) ?hqB17 (Or.inl ⟨?hwB17, fun w hSw => ?hyB17⟩) hHeld ?hkB17
                    case hiB17 => (simp only [List.getElem?_toArray, List.getElem?_cons_succ, List.getElem?_cons_zero]; rfl)
                    case hqB17 => exact fun _ _ _ h => h
                    case hwB17 => rfl
                    case hyB17 => first | (go_simp; done) | (go_simp; with_reducible rfl)
                    simp only [Act.put, List.setIfInBounds_toArray, List.set_cons_zero, List.set_cons_succ]
                    refine' wpAnyH_take (i := 18) (oi := _) (v := .bool true) ?hiB18 (by kernel_rfl) (by kernel_rfl) (by kernel_rfl) ?hqB18 (Or.inl ⟨?hwB18, fun w hSw => ?hyB18⟩) hHeld ?hkB18
                    case hiB18 => (simp only [List.getElem?_toArray, List.getElem?_cons_succ, List.getElem?_cons_zero]; rfl)
                    case hqB18 => exact fun _ _ _ h => h
                    case hwB18 => rfl
                    case hyB18 => first | (go_simp; done) | (go_simp; with_reducible rfl)
                    simp only [Act.put, List.setIfInBounds_toArray, List.set_cons_zero, List.set_cons_succ]
                    refine' wpAnyH_take (i := 19) (oi := _) (v := .bool false) ?hiB19 (by kernel_rfl) (by kernel_rfl) (by kernel_rfl) ?hqB19 (Or.inl ⟨?hwB19, fun w hSw => ?hyB19⟩) hHeld ?hkB19
                    case hiB19 => (simp only [List.getElem?_toArray, List.getElem?_cons_succ, List.getElem?_cons_zero]; rfl)
                    case hqB19 => exact fun _ _ _ h => h
                    case hwB19 => rfl
                    case hyB19 => first | (go_simp; done) | (go_simp; with_reducible rfl)
                    simp only [Act.put, List.setIfInBounds_toArray, List.set_cons_zero, List.set_cons_succ]
                    refine' wpAnyH_take (i := 20) (oi := _) (v := .bool false) ?hiB20 (by kernel_rfl) (by kernel_rfl) (by kernel_rfl) ?hqB20 (Or.inl ⟨?hwB20, fun w hSw => ?hyB20⟩) hHeld ?hkB20
                    case hiB20 => (simp only [List.getElem?_toArray, List.getElem?_cons_succ, List.getElem?_cons_zero]; rfl)
                    case hqB20 => exact fun _ _ _ h => h
                    case hwB20 => rfl
                    case hyB20 => first | (go_simp; done) | (go_simp; with_reducible rfl)
                    simp only [Act.put, List.setIfInBounds_toArray, List.set_cons_zero, List.set_cons_succ]
                    refine' wpAnyH_take (i := 21) (oi := _) (v := .bool false) ?hiB21 (by kernel_rfl) (by kernel_rfl) (by kernel_rfl) ?hqB21 (Or.inl ⟨?hwB21, fun w hSw => ?hyB21⟩) hHeld ?hkB21
                    case hiB21 => (simp only [List.getElem?_toArray, List.getElem?_cons_succ, List.getElem?_cons_zero]; rfl)
                    case hqB21 => exact fun _ _ _ h => h
                    case hwB21 => rfl
                    case hyB21 => first | (go_simp; done) | (go_simp; with_reducible rfl)
                    simp only [Act.put, List.setIfInBounds_toArray, List.set_cons_zero, List.set_cons_succ]
                    refine' wpAnyH_take (i := 22) (oi := _) (v := .bool false) ?hiB22 (by kernel_rfl) (by kernel_rfl) (by kernel_rfl) ?hqB22 (Or.inl ⟨?hwB22, fun w hSw => ?hyB22⟩) hHeld ?hkB22
                    case hiB22 => (simp only [List.getElem?_toArray, List.getElem?_cons_succ, List.getElem?_cons_zero]; rfl)
                    case hqB22 => exact fun _ _ _ h => h
                    case hwB22 => rfl
                    case hyB22 => first | (go_simp; done) | (go_simp; with_reducible rfl)
                    simp only [Act.put, List.setIfInBounds_toArray, List.set_cons_zero, List.set_cons_succ]
                    refine' wpAnyH_take (i := 23) (oi := _) (v := .pointer (some ⟨lb2, 0, none⟩)) ?hiB23 (by kernel_rfl) (by kernel_rfl) (by kernel_rfl) ?hqB23 (Or.inl ⟨?hwB23, fun w hSw => ?hyB23⟩) hHeld ?hkB23
                    case hiB23 => (simp only [List.getElem?_toArray, List.getElem?_cons_succ, List.getElem?_cons_zero]; rfl)
                    case hqB23 => exact fun _ _ _ h => h
                    case hwB23 => rfl
                    case hyB23 => first | (go_simp; done) | (go_simp; with_reducible rfl)
                    simp only [Act.put, List.setIfInBounds_toArray, List.set_cons_zero, List.set_cons_succ]
                    refine' wpAnyH_take (i := 25) (oi := _) (v := .pointer (some ⟨lb1, 0, none⟩)) ?hiB25 (by kernel_rfl) (by kernel_rfl) (by kernel_rfl) ?hqB25 (Or.inl ⟨?hwB25, fun w hSw => ?hyB25⟩) hHeld ?hkB25
                    case hiB25 => (simp only [List.getElem?_toArray, List.getElem?_cons_succ, List.getElem?_cons_zero]; rfl)
                    case hqB25 => exact fun _ _ _ h => h
                    case hwB25 => rfl
                    case hyB25 => first | (go_simp; done) | (go_simp; with_reducible rfl)
                    simp only [Act.put, List.setIfInBounds_toArray, List.set_cons_zero, List.set_cons_succ]
                    refine wpAnyH_ready (rs := [24]) (by kernel_rfl) (by simp) ?_
                    refine AllReadyH.cons rfl (fun K hK => ?_) AllReadyH.nil
                    go_simp
                    go_at_call 26
                    refine (HT2.out _ (hHd.drew)).mono ?_
                    rintro e9 u1 ⟨rfl, hU1⟩
                    replace hU1 := hHd.drew.tr hU1
                    refine hK.out _ _ (HKP.out _ hU1) (fun hHeld => ?_)
                    clear hK K
                    refine wpAnyH_ready (rs := [26]) (by kernel_rfl) (by simp) ?_
                    refine AllReadyH.cons rfl (fun K hK => ?_) AllReadyH.nil
                    go_simp
                    go_at_call 26
                    refine (HT1.out _ hU1).mono ?_
                    rintro e9 u2 ⟨rfl, hU2⟩
                    replace hU2 := hU1.tr hU2
                    refine hK.out _ _ (HKP.out _ hU2) (fun hHeld => ?_)
                    clear hK K
                    refine' wpAnyH_take (i := 27) (oi := _) (v := .bool false) ?hiB27 (by kernel_rfl) (by kernel_rfl) (by kernel_rfl) ?hqB27 (Or.inl ⟨?hwB27, fun w hSw => ?hyB27⟩) hHeld ?hkB27
                    case hiB27 => (simp only [List.getElem?_toArray, List.getElem?_cons_succ, List.getElem?_cons_zero]; rfl)
                    case hqB27 => exact fun _ _ _ h => h
                    case hwB27 => rfl
                    case hyB27 => first | (go_simp; done) | (go_simp; with_reducible rfl)
                    simp only [Act.put, List.setIfInBounds_toArray, List.set_cons_zero, List.set_cons_succ]
                    refine' wpAnyH_take (i := 28) (oi := _) (v := .bool false) ?hiB28 (by kernel_rfl) (by kernel_rfl) (by kernel_rfl) ?hqB28 (Or.inl ⟨?hwB28, fun w hSw => ?hyB28⟩) hHeld ?hkB28
                    case hiB28 => (simp only [List.getElem?_toArray, List.getElem?_cons_succ, List.getElem?_cons_zero]; rfl)
                    case hqB28 => exact fun _ _ _ h => h
                    case hwB28 => rfl
                    case hyB28 => first | (go_simp; done) | (go_simp; with_reducible rfl)
                    simp only [Act.put, List.setIfInBounds_toArray, List.set_cons_zero, List.set_cons_succ]
                    refine' wpAnyH_take (i := 29) (oi := _) (v := .bool false) ?hiB29 (by kernel_rfl) (by kernel_rfl) (by kernel_rfl) ?hqB29 (Or.inl ⟨?hwB29, fun w hSw => ?hyB29⟩) hHeld ?hkB29
                    case hiB29 => (simp only [List.getElem?_toArray, List.getElem?_cons_succ, List.getElem?_cons_zero]; rfl)
                    case hqB29 => exact fun _ _ _ h => h
                    case hwB29 => rfl
                    case hyB29 => first | (go_simp; done) | (go_simp; with_reducible rfl)
                    simp only [Act.put, List.setIfInBounds_toArray, List.set_cons_zero, List.set_cons_succ]
                    refine' wpAnyH_take (i := 30) (oi := _) (v := .pointer (some ⟨lb2, 0, none⟩)) ?hiB30 (by kernel_rfl) (by kernel_rfl) (by kernel_rfl) ?hqB30 (Or.inl ⟨?hwB30, fun w hSw => ?hyB30⟩) hHeld ?hkB30
                    case hiB30 => (simp only [List.getElem?_toArray, List.getElem?_cons_succ, List.getElem?_cons_zero]; rfl)
                    case hqB30 => exact fun _ _ _ h => h
                    case hwB30 => rfl
                    case hyB30 => first | (go_simp; done) | (go_simp; with_reducible rfl)
                    simp only [Act.put, List.setIfInBounds_toArray, List.set_cons_zero, List.set_cons_succ]
                    refine' wpAnyH_take (i := 31) (oi := _) (v := .slice (some ⟨bA, oA, none⟩) nA cA) ?hiB31 (by kernel_rfl) (by kernel_rfl) (by kernel_rfl) ?hqB31 (Or.inl ⟨?hwB31, fun w hSw => ?hyB31⟩) hHeld ?hkB31
                    case hiB31 => (simp only [List.getElem?_toArray, List.getElem?_cons_succ, List.getElem?_cons_zero]; rfl)
                    case hqB31 => exact fun _ _ _ h => h
                    case hwB31 => rfl
                    case hyB31 => first | (go_simp; done) | (go_simp; with_reducible rfl)
                    simp only [Act.put, List.setIfInBounds_toArray, List.set_cons_zero, List.set_cons_succ]
                    refine' wpAnyH_take (i := 32) (oi := _) (v := .int .i64 i) ?hiB32 (by kernel_rfl) (by kernel_rfl) (by kernel_rfl) ?hqB32 (Or.inl ⟨?hwB32, fun w hSw => ?hyB32⟩) hHeld ?hkB32
                    case hiB32 => (simp only [List.getElem?_toArray, List.getElem?_cons_succ, List.getElem?_cons_zero]; rfl)
                    case hqB32 => exact fun _ _ _ h => h
                    case hwB32 => rfl
                    case hyB32 => first | (go_simp; done) | (go_simp; with_reducible rfl)
                    simp only [Act.put, List.setIfInBounds_toArray, List.set_cons_zero, List.set_cons_succ]
                    refine' wpAnyH_take (i := 33) (oi := _) (v := .pointer (some ⟨bA, oA + i * 4, none⟩)) ?hiB33 (by kernel_rfl) (by kernel_rfl) (by kernel_rfl) ?hqB33 (Or.inl ⟨?hwB33, fun w hSw => ?hyB33⟩) hHeld ?hkB33
                    case hiB33 => (simp only [List.getElem?_toArray, List.getElem?_cons_succ, List.getElem?_cons_zero]; rfl)
                    case hqB33 => exact fun _ _ _ h => h
                    case hwB33 => rfl
                    case hyB33 => first | (go_simp; done) | (go_simp; with_reducible rfl)
                    simp only [Act.put, List.setIfInBounds_toArray, List.set_cons_zero, List.set_cons_succ]
                    refine' wpAnyH_take (i := 34) (oi := _) (v := .pointer (some ⟨bA, oA + i * 4 + 1, none⟩)) ?hiB34 (by kernel_rfl) (by kernel_rfl) (by kernel_rfl) ?hqB34 (Or.inl ⟨?hwB34, fun w hSw => ?hyB34⟩) hHeld ?hkB34
                    case hiB34 => (simp only [List.getElem?_toArray, List.getElem?_cons_succ, List.getElem?_cons_zero]; rfl)
                    case hqB34 => exact fun _ _ _ h => h
                    case hwB34 => rfl
                    case hyB34 => first | (go_simp; done) | (go_simp; with_reducible rfl)
                    simp only [Act.put, List.setIfInBounds_toArray, List.set_cons_zero, List.set_cons_succ]
                    refine' wpAnyH_take (i := 35) (oi := _) (v := .int .i64 ya) ?hiB35 (by kernel_rfl) (by kernel_rfl) (by kernel_rfl) ?hqB35 (Or.inl ⟨?hwB35, fun w hSw => ?hyB35⟩) hHeld ?hkB35
                    case hiB35 => (simp only [List.getElem?_toArray, List.getElem?_cons_succ, List.getElem?_cons_zero]; rfl)
                    case hqB35 => exact fun _ _ _ h => h
                    case hwB35 => rfl
                    case hyB35 => first | (go_simp; done) | (go_simp; with_reducible rfl)
                    simp only [Act.put, List.setIfInBounds_toArray, List.set_cons_zero, List.set_cons_succ]
                    refine' wpAnyH_take (i := 37) (oi := _) (v := .pointer (some ⟨lb1, 0, none⟩)) ?hiB37 (by kernel_rfl) (by kernel_rfl) (by kernel_rfl) ?hqB37 (Or.inl ⟨?hwB37, fun w hSw => ?hyB37⟩) hHeld ?hkB37
                    case hiB37 => (simp only [List.getElem?_toArray, List.getElem?_cons_succ, List.getElem?_cons_zero]; rfl)
                    case hqB37 => exact fun _ _ _ h => h
                    case hwB37 => rfl
                    case hyB37 => first | (go_simp; done) | (go_simp; with_reducible rfl)
                    simp only [Act.put, List.setIfInBounds_toArray, List.set_cons_zero, List.set_cons_succ]
                    refine' wpAnyH_take (i := 38) (oi := _) (v := .slice (some ⟨bA, oA, none⟩) nA cA) ?hiB38 (by kernel_rfl) (by kernel_rfl) (by kernel_rfl) ?hqB38 (Or.inl ⟨?hwB38, fun w hSw => ?hyB38⟩) hHeld ?hkB38
                    case hiB38 => (simp only [List.getElem?_toArray, List.getElem?_cons_succ, List.getElem?_cons_zero]; rfl)
                    case hqB38 => exact fun _ _ _ h => h
                    case hwB38 => rfl
                    case hyB38 => first | (go_simp; done) | (go_simp; with_reducible rfl)
                    simp only [Act.put, List.setIfInBounds_toArray, List.set_cons_zero, List.set_cons_succ]
                    refine' wpAnyH_take (i := 39) (oi := _) (v := .int .i64 i) ?hiB39 (by kernel_rfl) (by kernel_rfl) (by kernel_rfl) ?hqB39 (Or.inl ⟨?hwB39, fun w hSw => ?hyB39⟩) hHeld ?hkB39
                    case hiB39 => (simp only [List.getElem?_toArray, List.getElem?_cons_succ, List.getElem?_cons_zero]; rfl)
                    case hqB39 => exact fun _ _ _ h => h
                    case hwB39 => rfl
                    case hyB39 => first | (go_simp; done) | (go_simp; with_reducible rfl)
                    simp only [Act.put, List.setIfInBounds_toArray, List.set_cons_zero, List.set_cons_succ]
                    refine' wpAnyH_take (i := 40) (oi := _) (v := .pointer (some ⟨bA, oA + i * 4, none⟩)) ?hiB40 (by kernel_rfl) (by kernel_rfl) (by kernel_rfl) ?hqB40 (Or.inl ⟨?hwB40, fun w hSw => ?hyB40⟩) hHeld ?hkB40
                    case hiB40 => (simp only [List.getElem?_toArray, List.getElem?_cons_succ, List.getElem?_cons_zero]; rfl)
                    case hqB40 => exact fun _ _ _ h => h
                    case hwB40 => rfl
                    case hyB40 => first | (go_simp; done) | (go_simp; with_reducible rfl)
                    simp only [Act.put, List.setIfInBounds_toArray, List.set_cons_zero, List.set_cons_succ]
                    refine' wpAnyH_take (i := 41) (oi := _) (v := .pointer (some ⟨bA, oA + i * 4 + 1, none⟩)) ?hiB41 (by kernel_rfl) (by kernel_rfl) (by kernel_rfl) ?hqB41 (Or.inl ⟨?hwB41, fun w hSw => ?hyB41⟩) hHeld ?hkB41
                    case hiB41 => (simp only [List.getElem?_toArray, List.getElem?_cons_succ, List.getElem?_cons_zero]; rfl)
                    case hqB41 => exact fun _ _ _ h => h
                    case hwB41 => rfl
                    case hyB41 => first | (go_simp; done) | (go_simp; with_reducible rfl)
                    simp only [Act.put, List.setIfInBounds_toArray, List.set_cons_zero, List.set_cons_succ]
                    refine' wpAnyH_take (i := 42) (oi := _) (v := .int .i64 ya) ?hiB42 (by kernel_rfl) (by kernel_rfl) (by kernel_rfl) ?hqB42 (Or.inl ⟨?hwB42, fun w hSw => ?hyB42⟩) hHeld ?hkB42
                    case hiB42 => (simp only [List.getElem?_toArray, List.getElem?_cons_succ, List.getElem?_cons_zero]; rfl)
                    case hqB42 => exact fun _ _ _ h => h
                    case hwB42 => rfl
                    case hyB42 => first | (go_simp; done) | (go_simp; with_reducible rfl)
                    simp only [Act.put, List.setIfInBounds_toArray, List.set_cons_zero, List.set_cons_succ]
                    refine wpAnyH_ready (rs := [36]) (by kernel_rfl) (by simp) ?_
                    refine AllReadyH.cons rfl (fun K hK => ?_) AllReadyH.nil
                    go_simp
                    go_at_call 20
                    refine (HD2.out _ hU2).mono ?_
                    rintro e9 u3 ⟨rfl, hU3⟩
                    replace hU3 := hU2.tr hU3
                    refine hK.out _ _ (HKP.out _ hU3) (fun hHeld => ?_)
                    clear hK K
                    refine wpAnyH_ready (rs := [43]) (by kernel_rfl) (by simp) ?_
                    refine AllReadyH.cons rfl (fun K hK => ?_) AllReadyH.nil
                    go_simp
                    go_at_call 20
                    refine (HD1.out _ hU3).mono ?_
                    rintro e9 u4 ⟨rfl, hU4⟩
                    replace hU4 := hU3.tr hU4
                    refine hK.out _ _ (HKP.out _ hU4) (fun hHeld => ?_)
                    clear hK K
                    refine' wpAnyH_take (i := 44) (oi := _) (v := .bool false) ?hiB44 (by kernel_rfl) (by kernel_rfl) (by kernel_rfl) ?hqB44 (Or.inl ⟨?hwB44, fun w hSw => ?hyB44⟩) hHeld ?hkB44
                    case hiB44 => (simp only [List.getElem?_toArray, List.getElem?_cons_succ, List.getElem?_cons_zero]; rfl)
                    case hqB44 => exact fun _ _ _ h => h
                    case hwB44 => rfl
                    case hyB44 => first | (go_simp; done) | (go_simp; with_reducible rfl)
                    simp only [Act.put, List.setIfInBounds_toArray, List.set_cons_zero, List.set_cons_succ]
                    refine' wpAnyH_take (i := 45) (oi := _) (v := .bool false) ?hiB45 (by kernel_rfl) (by kernel_rfl) (by kernel_rfl) ?hqB45 (Or.inl ⟨?hwB45, fun w hSw => ?hyB45⟩) hHeld ?hkB45
                    case hiB45 => (simp only [List.getElem?_toArray, List.getElem?_cons_succ, List.getElem?_cons_zero]; rfl)
                    case hqB45 => exact fun _ _ _ h => h
                    case hwB45 => rfl
                    case hyB45 => first | (go_simp; done) | (go_simp; with_reducible rfl)
                    simp only [Act.put, List.setIfInBounds_toArray, List.set_cons_zero, List.set_cons_succ]
                    refine wpAnyH_done (by kernel_rfl) ?_ _
                    clear hHeld
                    go_wp2
                    go_roundw
                    case rel => exact ⟨i + 1, HLT.out, congrArg (Value.int IntKind.i64) (Int.natCast_succ i).symm, HC7.out.tr hU4⟩
                    case measure => exact fit_meas i nA HLT.out
                · have e2 : (yk == 3) = false := beq_eq_false_iff_ne.2 hk3
                  clear hk2 hk3
                  go_wp2_with fail
                  as_aux_lemma =>
                    refine wp_region_held_drew (S := fun w' => Chg (fun _ => False) wr w' ∧ w'.cell? ⟨bA, oA + i * 4, none⟩ = some (.int .i64 yk) ∧ w'.cell? ⟨bA, oA + i * 4 + 1, none⟩ = some (.int .i64 ya)) (by kernel_rfl) (HKP.out _ (hHd.drew)) (fun hHeld => ?_)
                    refine' wpAnyH_take (i := 0) (oi := _) (v := .slice (some ⟨bA, oA, none⟩) nA cA) ?hiC0 (by kernel_rfl) (by kernel_rfl) (by kernel_rfl) ?hqC0 (Or.inl ⟨?hwC0, fun w hSw => ?hyC0⟩) hHeld ?hkC0
                    case hiC0 => (simp only [List.getElem?_toArray, List.getElem?_cons_zero]; rfl)
                    case hqC0 => exact fun _ _ _ h => h
                    case hwC0 => rfl
                    case hyC0 => first | (go_simp; done) | (go_simp; with_reducible rfl)
                    simp only [Act.put, List.setIfInBounds_toArray, List.set_cons_zero, List.set_cons_succ]
                    refine' wpAnyH_take (i := 1) (oi := _) (v := .int .i64 i) ?hiC1 (by kernel_rfl) (by kernel_rfl) (by kernel_rfl) ?hqC1 (Or.inl ⟨?hwC1, fun w hSw => ?hyC1⟩) hHeld ?hkC1
                    case hiC1 => (simp only [List.getElem?_toArray, List.getElem?_cons_succ, List.getElem?_cons_zero]; rfl)
                    case hqC1 => exact fun _ _ _ h => h
                    case hwC1 => rfl
                    case hyC1 => first | (go_simp; done) | (go_simp; with_reducible rfl)
                    simp only [Act.put, List.setIfInBounds_toArray, List.set_cons_zero, List.set_cons_succ]
                    refine' wpAnyH_take (i := 2) (oi := _) (v := .pointer (some ⟨bA, oA + i * 4, none⟩)) ?hiC2 (by kernel_rfl) (by kernel_rfl) (by kernel_rfl) ?hqC2 (Or.inl ⟨?hwC2, fun w hSw => ?hyC2⟩) hHeld ?hkC2
                    case hiC2 => (simp only [List.getElem?_toArray, List.getElem?_cons_succ, List.getElem?_cons_zero]; rfl)
                    case hqC2 => exact fun _ _ _ h => h
                    case hwC2 => rfl
                    case hyC2 => first | (go_simp; done) | (go_simp; with_reducible rfl)
                    simp only [Act.put, List.setIfInBounds_toArray, List.set_cons_zero, List.set_cons_succ]
                    refine' wpAnyH_take (i := 3) (oi := _) (v := .pointer (some ⟨bA, oA + i * 4, none⟩)) ?hiC3 (by kernel_rfl) (by kernel_rfl) (by kernel_rfl) ?hqC3 (Or.inl ⟨?hwC3, fun w hSw => ?hyC3⟩) hHeld ?hkC3
                    case hiC3 => (simp only [List.getElem?_toArray, List.getElem?_cons_succ, List.getElem?_cons_zero]; rfl)
                    case hqC3 => exact fun _ _ _ h => h
                    case hwC3 => rfl
                    case hyC3 => first | (go_simp; done) | (go_simp; with_reducible rfl)
                    simp only [Act.put, List.setIfInBounds_toArray, List.set_cons_zero, List.set_cons_succ]
                    refine' wpAnyH_take (i := 4) (oi := _) (v := .int .i64 yk) ?hiC4 (by kernel_rfl) (by kernel_rfl) (by kernel_rfl) ?hqC4 (Or.inl ⟨?hwC4, fun w hSw => ?hyC4⟩) hHeld ?hkC4
                    case hiC4 => (simp only [List.getElem?_toArray, List.getElem?_cons_succ, List.getElem?_cons_zero]; rfl)
                    case hqC4 => exact fun _ _ _ h => h
                    case hwC4 => rfl
                    case hyC4 => first | (go_simp; done) | (go_simp; with_reducible rfl)
                    simp only [Act.put, List.setIfInBounds_toArray, List.set_cons_zero, List.set_cons_succ]
                    refine' wpAnyH_take (i := 5) (oi := _) (v := .bool false) ?hiC5 (by kernel_rfl) (by kernel_rfl) (by kernel_rfl) ?hqC5 (Or.inl ⟨?hwC5, fun w hSw => ?hyC5⟩) hHeld ?hkC5
                    case hiC5 => (simp only [List.getElem?_toArray, List.getElem?_cons_succ, List.getElem?_cons_zero]; rfl)
                    case hqC5 => exact fun _ _ _ h => h
                    case hwC5 => rfl
                    case hyC5 => first | (go_simp; done) | (go_simp; with_reducible rfl)
                    simp only [Act.put, List.setIfInBounds_toArray, List.set_cons_zero, List.set_cons_succ]
                    refine' wpAnyH_take (i := 6) (oi := _) (v := .bool false) ?hiC6 (by kernel_rfl) (by kernel_rfl) (by kernel_rfl) ?hqC6 (Or.inl ⟨?hwC6, fun w hSw => ?hyC6⟩) hHeld ?hkC6
                    case hiC6 => (simp only [List.getElem?_toArray, List.getElem?_cons_succ, List.getElem?_cons_zero]; rfl)
                    case hqC6 => exact fun _ _ _ h => h
                    case hwC6 => rfl
                    case hyC6 => first | (go_simp; done) | (go_simp; with_reducible rfl)
                    simp only [Act.put, List.setIfInBounds_toArray, List.set_cons_zero, List.set_cons_succ]
                    refine' wpAnyH_take (i := 7) (oi := _) (v := undef) ?hiC7 (by kernel_rfl) (by kernel_rfl) (by kernel_rfl) ?hqC7 (Or.inr ⟨?hwC7, rfl⟩) hHeld ?hkC7
                    case hiC7 => (simp only [List.getElem?_toArray, List.getElem?_cons_succ, List.getElem?_cons_zero]; rfl)
                    case hqC7 => exact fun _ _ _ h => h
                    case hwC7 => rfl
                    simp only [Act.put, List.setIfInBounds_toArray, List.set_cons_zero, List.set_cons_succ]
                    refine' wpAnyH_take (i := 8) (oi := _) (v := undef) ?hiC8 (by kernel_rfl) (by kernel_rfl) (by kernel_rfl) ?hqC8 (Or.inr ⟨?hwC8, rfl⟩) hHeld ?hkC8
                    case hiC8 => (simp only [List.getElem?_toArray, List.getElem?_cons_succ, List.getElem?_cons_zero]; rfl)
                    case hqC8 => exact fun _ _ _ h => h
                    case hwC8 => rfl
                    simp only [Act.put, List.setIfInBounds_toArray, List.set_cons_zero, List.set_cons_succ]
                    refine' wpAnyH_take (i := 9) (oi := _) (v := .bool false) ?hiC9 (by kernel_rfl) (by kernel_rfl) (by kernel_rfl) ?hqC9 (Or.inl ⟨?hwC9, fun w hSw => ?hyC9⟩) hHeld ?hkC9
                    case hiC9 => (simp only [List.getElem?_toArray, List.getElem?_cons_succ, List.getElem?_cons_zero]; rfl)
                    case hqC9 => exact fun _ _ _ h => h
                    case hwC9 => rfl
                    case hyC9 => first | (go_simp; done) | (go_simp; with_reducible rfl)
                    simp only [Act.put, List.setIfInBounds_toArray, List.set_cons_zero, List.set_cons_succ]
                    refine' wpAnyH_take (i := 10) (oi := _) (v := .bool false) ?hiC10 (by kernel_rfl) (by kernel_rfl) (by kernel_rfl) ?hqC10 (Or.inl ⟨?hwC10, fun w hSw => ?hyC10⟩) hHeld ?hkC10
                    case hiC10 => (simp only [List.getElem?_toArray, List.getElem?_cons_succ, List.getElem?_cons_zero]; rfl)
                    case hqC10 => exact fun _ _ _ h => h
                    case hwC10 => rfl
                    case hyC10 => first | (go_simp; done) | (go_simp; with_reducible rfl)
                    simp only [Act.put, List.setIfInBounds_toArray, List.set_cons_zero, List.set_cons_succ]
                    refine' wpAnyH_take (i := 11) (oi := _) (v := .slice (some ⟨bA, oA, none⟩) nA cA) ?hiC11 (by kernel_rfl) (by kernel_rfl) (by kernel_rfl) ?hqC11 (Or.inl ⟨?hwC11, fun w hSw => ?hyC11⟩) hHeld ?hkC11
                    case hiC11 => (simp only [List.getElem?_toArray, List.getElem?_cons_succ, List.getElem?_cons_zero]; rfl)
                    case hqC11 => exact fun _ _ _ h => h
                    case hwC11 => rfl
                    case hyC11 => first | (go_simp; done) | (go_simp; with_reducible rfl)
                    simp only [Act.put, List.setIfInBounds_toArray, List.set_cons_zero, List.set_cons_succ]
                    refine' wpAnyH_take (i := 12) (oi := _) (v := .int .i64 i) ?hiC12 (by kernel_rfl) (by kernel_rfl) (by kernel_rfl) ?hqC12 (Or.inl ⟨?hwC12, fun w hSw => ?hyC12⟩) hHeld ?hkC12
                    case hiC12 => (simp only [List.getElem?_toArray, List.getElem?_cons_succ, List.getElem?_cons_zero]; rfl)
                    case hqC12 => exact fun _ _ _ h => h
                    case hwC12 => rfl
                    case hyC12 => first | (go_simp; done) | (go_simp; with_reducible rfl)
                    simp only [Act.put, List.setIfInBounds_toArray, List.set_cons_zero, List.set_cons_succ]
                    refine' wpAnyH_take (i := 13) (oi := _) (v := .pointer (some ⟨bA, oA + i * 4, none⟩)) ?hiC13 (by kernel_rfl) (by kernel_rfl) (by kernel_rfl) ?hqC13 (Or.inl ⟨?hwC13, fun w hSw => ?hyC13⟩) hHeld ?hkC13
                    case hiC13 => (simp only [List.getElem?_toArray, List.getElem?_cons_succ, List.getElem?_cons_zero]; rfl)
                    case hqC13 => exact fun _ _ _ h => h
                    case hwC13 => rfl
                    case hyC13 => first | (go_simp; done) | (go_simp; with_reducible rfl)
                    simp only [Act.put, List.setIfInBounds_toArray, List.set_cons_zero, List.set_cons_succ]
                    refine' wpAnyH_take (i := 14) (oi := _) (v := .pointer (some ⟨bA, oA + i * 4, none⟩)) ?hiC14 (by kernel_rfl) (by kernel_rfl) (by kernel_rfl) ?hqC14 (Or.inl ⟨?hwC14, fun w hSw => ?hyC14⟩) hHeld ?hkC14
                    case hiC14 => (simp only [List.getElem?_toArray, List.getElem?_cons_succ, List.getElem?_cons_zero]; rfl)
                    case hqC14 => exact fun _ _ _ h => h
                    case hwC14 => rfl
                    case hyC14 => first | (go_simp; done) | (go_simp; with_reducible rfl)
                    simp only [Act.put, List.setIfInBounds_toArray, List.set_cons_zero, List.set_cons_succ]
                    refine' wpAnyH_take (i := 15) (oi := _) (v := .int .i64 yk) ?hiC15 (by kernel_rfl) (by kernel_rfl) (by kernel_rfl) ?hqC15 (Or.inl ⟨?hwC15, fun w hSw => ?hyC15⟩) hHeld ?hkC15
                    case hiC15 => (simp only [List.getElem?_toArray, List.getElem?_cons_succ, List.getElem?_cons_zero]; rfl)
                    case hqC15 => exact fun _ _ _ h => h
                    case hwC15 => rfl
                    case hyC15 => first | (go_simp; done) | (go_simp; with_reducible rfl)
                    simp only [Act.put, List.setIfInBounds_toArray, List.set_cons_zero, List.set_cons_succ]
                    refine' wpAnyH_take (i := 16) (oi := _) (v := .bool false) ?hiC16 (by kernel_rfl) (by kernel_rfl) (by kernel_rfl) ?hqC16 (Or.inl ⟨?hwC16, fun w hSw => ?hyC16⟩) hHeld ?hkC16
                    case hiC16 => (simp only [List.getElem?_toArray, List.getElem?_cons_succ, List.getElem?_cons_zero]; rfl)
                    case hqC16 => exact fun _ _ _ h => h
                    case hwC16 => rfl
                    case hyC16 => first | (go_simp; done) | (go_simp; with_reducible rfl)
                    simp only [Act.put, List.setIfInBounds_toArray, List.set_cons_zero, List.set_cons_succ]
                    refine' wpAnyH_take (i := 17) (oi := _) (v := .bool false) ?hiC17 (by kernel_rfl) (by kernel_rfl) (by kernel_rfl) ?hqC17 (Or.inl ⟨?hwC17, fun w hSw => ?hyC17⟩) hHeld ?hkC17
                    case hiC17 => (simp only [List.getElem?_toArray, List.getElem?_cons_succ, List.getElem?_cons_zero]; rfl)
                    case hqC17 => exact fun _ _ _ h => h
                    case hwC17 => rfl
                    case hyC17 => first | (go_simp; done) | (go_simp; with_reducible rfl)
                    simp only [Act.put, List.setIfInBounds_toArray, List.set_cons_zero, List.set_cons_succ]
                    refine' wpAnyH_take (i := 18) (oi := _) (v := undef) ?hiC18 (by kernel_rfl) (by kernel_rfl) (by kernel_rfl) ?hqC18 (Or.inr ⟨?hwC18, rfl⟩) hHeld ?hkC18
                    case hiC18 => (simp only [List.getElem?_toArray, List.getElem?_cons_succ, List.getElem?_cons_zero]; rfl)
                    case hqC18 => exact fun _ _ _ h => h
                    case hwC18 => rfl
                    simp only [Act.put, List.setIfInBounds_toArray, List.set_cons_zero, List.set_cons_succ]
                    refine' wpAnyH_take (i := 19) (oi := _) (v := undef) ?hiC19 (by kernel_rfl) (by kernel_rfl) (by kernel_rfl) ?hqC19 (Or.inr ⟨?hwC19, rfl⟩) hHeld ?hkC19
                    case hiC19 => (simp only [List.getElem?_toArray, List.getElem?_cons_succ, List.getElem?_cons_zero]; rfl)
                    case hqC19 => exact fun _ _ _ h => h
                    case hwC19 => rfl
                    simp only [Act.put, List.setIfInBounds_toArray, List.set_cons_zero, List.set_cons_succ]
                    refine' wpAnyH_take (i := 20) (oi := _) (v := .bool false) ?hiC20 (by kernel_rfl) (by kernel_rfl) (by kernel_rfl) ?hqC20 (Or.inl ⟨?hwC20, fun w hSw => ?hyC20⟩) hHeld ?hkC20
                    case hiC20 => (simp only [List.getElem?_toArray, List.getElem?_cons_succ, List.getElem?_cons_zero]; rfl)
                    case hqC20 => exact fun _ _ _ h => h
                    case hwC20 => rfl
                    case hyC20 => first | (go_simp; done) | (go_simp; with_reducible rfl)
                    simp only [Act.put, List.setIfInBounds_toArray, List.set_cons_zero, List.set_cons_succ]
                    refine' wpAnyH_take (i := 21) (oi := _) (v := .bool false) ?hiC21 (by kernel_rfl) (by kernel_rfl) (by kernel_rfl) ?hqC21 (Or.inl ⟨?hwC21, fun w hSw => ?hyC21⟩) hHeld ?hkC21
                    case hiC21 => (simp only [List.getElem?_toArray, List.getElem?_cons_succ, List.getElem?_cons_zero]; rfl)
                    case hqC21 => exact fun _ _ _ h => h
                    case hwC21 => rfl
                    case hyC21 => first | (go_simp; done) | (go_simp; with_reducible rfl)
                    simp only [Act.put, List.setIfInBounds_toArray, List.set_cons_zero, List.set_cons_succ]
                    refine' wpAnyH_take (i := 22) (oi := _) (v := .bool false) ?hiC22 (by kernel_rfl) (by kernel_rfl) (by kernel_rfl) ?hqC22 (Or.inl ⟨?hwC22, fun w hSw => ?hyC22⟩) hHeld ?hkC22
                    case hiC22 => (simp only [List.getElem?_toArray, List.getElem?_cons_succ, List.getElem?_cons_zero]; rfl)
                    case hqC22 => exact fun _ _ _ h => h
                    case hwC22 => rfl
                    case hyC22 => first | (go_simp; done) | (go_simp; with_reducible rfl)
                    simp only [Act.put, List.setIfInBounds_toArray, List.set_cons_zero, List.set_cons_succ]
                    refine' wpAnyH_take (i := 23) (oi := _) (v := .pointer (some ⟨lb2, 0, none⟩)) ?hiC23 (by kernel_rfl) (by kernel_rfl) (by kernel_rfl) ?hqC23 (Or.inl ⟨?hwC23, fun w hSw => ?hyC23⟩) hHeld ?hkC23
                    case hiC23 => (simp only [List.getElem?_toArray, List.getElem?_cons_succ, List.getElem?_cons_zero]; rfl)
                    case hqC23 => exact fun _ _ _ h => h
                    case hwC23 => rfl
                    case hyC23 => first | (go_simp; done) | (go_simp; with_reducible rfl)
                    simp only [Act.put, List.setIfInBounds_toArray, List.set_cons_zero, List.set_cons_succ]
                    refine' wpAnyH_take (i := 25) (oi := _) (v := .pointer (some ⟨lb1, 0, none⟩)) ?hiC25 (by kernel_rfl) (by kernel_rfl) (by kernel_rfl) ?hqC25 (Or.inl ⟨?hwC25, fun w hSw => ?hyC25⟩) hHeld ?hkC25
                    case hiC25 => (simp only [List.getElem?_toArray, List.getElem?_cons_succ, List.getElem?_cons_zero]; rfl)
                    case hqC25 => exact fun _ _ _ h => h
                    case hwC25 => rfl
                    case hyC25 => first | (go_simp; done) | (go_simp; with_reducible rfl)
                    simp only [Act.put, List.setIfInBounds_toArray, List.set_cons_zero, List.set_cons_succ]
                    refine wpAnyH_ready (rs := [24]) (by kernel_rfl) (by simp) ?_
                    refine AllReadyH.cons rfl (fun K hK => ?_) AllReadyH.nil
                    go_simp
                    go_at_call 26
                    refine (HT2.out _ (hHd.drew)).mono ?_
                    rintro e9 u1 ⟨rfl, hU1⟩
                    replace hU1 := hHd.drew.tr hU1
                    refine hK.out _ _ (HKP.out _ hU1) (fun hHeld => ?_)
                    clear hK K
                    refine wpAnyH_ready (rs := [26]) (by kernel_rfl) (by simp) ?_
                    refine AllReadyH.cons rfl (fun K hK => ?_) AllReadyH.nil
                    go_simp
                    go_at_call 26
                    refine (HT1.out _ hU1).mono ?_
                    rintro e9 u2 ⟨rfl, hU2⟩
                    replace hU2 := hU1.tr hU2
                    refine hK.out _ _ (HKP.out _ hU2) (fun hHeld => ?_)
                    clear hK K
                    refine' wpAnyH_take (i := 27) (oi := _) (v := .bool false) ?hiC27 (by kernel_rfl) (by kernel_rfl) (by kernel_rfl) ?hqC27 (Or.inl ⟨?hwC27, fun w hSw => ?hyC27⟩) hHeld ?hkC27
                    case hiC27 => (simp only [List.getElem?_toArray, List.getElem?_cons_succ, List.getElem?_cons_zero]; rfl)
                    case hqC27 => exact fun _ _ _ h => h
                    case hwC27 => rfl
                    case hyC27 => first | (go_simp; done) | (go_simp; with_reducible rfl)
                    simp only [Act.put, List.setIfInBounds_toArray, List.set_cons_zero, List.set_cons_succ]
                    refine' wpAnyH_take (i := 28) (oi := _) (v := .bool false) ?hiC28 (by kernel_rfl) (by kernel_rfl) (by kernel_rfl) ?hqC28 (Or.inl ⟨?hwC28, fun w hSw => ?hyC28⟩) hHeld ?hkC28
                    case hiC28 => (simp only [List.getElem?_toArray, List.getElem?_cons_succ, List.getElem?_cons_zero]; rfl)
                    case hqC28 => exact fun _ _ _ h => h
                    case hwC28 => rfl
                    case hyC28 => first | (go_simp; done) | (go_simp; with_reducible rfl)
                    simp only [Act.put, List.setIfInBounds_toArray, List.set_cons_zero, List.set_cons_succ]
                    refine' wpAnyH_take (i := 29) (oi := _) (v := .bool false) ?hiC29 (by kernel_rfl) (by kernel_rfl) (by kernel_rfl) ?hqC29 (Or.inl ⟨?hwC29, fun w hSw => ?hyC29⟩) hHeld ?hkC29
                    case hiC29 => (simp only [List.getElem?_toArray, List.getElem?_cons_succ, List.getElem?_cons_zero]; rfl)
                    case hqC29 => exact fun _ _ _ h => h
                    case hwC29 => rfl
                    case hyC29 => first | (go_simp; done) | (go_simp; with_reducible rfl)
                    simp only [Act.put, List.setIfInBounds_toArray, List.set_cons_zero, List.set_cons_succ]
                    refine' wpAnyH_take (i := 30) (oi := _) (v := .pointer (some ⟨lb2, 0, none⟩)) ?hiC30 (by kernel_rfl) (by kernel_rfl) (by kernel_rfl) ?hqC30 (Or.inl ⟨?hwC30, fun w hSw => ?hyC30⟩) hHeld ?hkC30
                    case hiC30 => (simp only [List.getElem?_toArray, List.getElem?_cons_succ, List.getElem?_cons_zero]; rfl)
                    case hqC30 => exact fun _ _ _ h => h
                    case hwC30 => rfl
                    case hyC30 => first | (go_simp; done) | (go_simp; with_reducible rfl)
                    simp only [Act.put, List.setIfInBounds_toArray, List.set_cons_zero, List.set_cons_succ]
                    refine' wpAnyH_take (i := 31) (oi := _) (v := .slice (some ⟨bA, oA, none⟩) nA cA) ?hiC31 (by kernel_rfl) (by kernel_rfl) (by kernel_rfl) ?hqC31 (Or.inl ⟨?hwC31, fun w hSw => ?hyC31⟩) hHeld ?hkC31
                    case hiC31 => (simp only [List.getElem?_toArray, List.getElem?_cons_succ, List.getElem?_cons_zero]; rfl)
                    case hqC31 => exact fun _ _ _ h => h
                    case hwC31 => rfl
                    case hyC31 => first | (go_simp; done) | (go_simp; with_reducible rfl)
                    simp only [Act.put, List.setIfInBounds_toArray, List.set_cons_zero, List.set_cons_succ]
                    refine' wpAnyH_take (i := 32) (oi := _) (v := .int .i64 i) ?hiC32 (by kernel_rfl) (by kernel_rfl) (by kernel_rfl) ?hqC32 (Or.inl ⟨?hwC32, fun w hSw => ?hyC32⟩) hHeld ?hkC32
                    case hiC32 => (simp only [List.getElem?_toArray, List.getElem?_cons_succ, List.getElem?_cons_zero]; rfl)
                    case hqC32 => exact fun _ _ _ h => h
                    case hwC32 => rfl
                    case hyC32 => first | (go_simp; done) | (go_simp; with_reducible rfl)
                    simp only [Act.put, List.setIfInBounds_toArray, List.set_cons_zero, List.set_cons_succ]
                    refine' wpAnyH_take (i := 33) (oi := _) (v := .pointer (some ⟨bA, oA + i * 4, none⟩)) ?hiC33 (by kernel_rfl) (by kernel_rfl) (by kernel_rfl) ?hqC33 (Or.inl ⟨?hwC33, fun w hSw => ?hyC33⟩) hHeld ?hkC33
                    case hiC33 => (simp only [List.getElem?_toArray, List.getElem?_cons_succ, List.getElem?_cons_zero]; rfl)
                    case hqC33 => exact fun _ _ _ h => h
                    case hwC33 => rfl
                    case hyC33 => first | (go_simp; done) | (go_simp; with_reducible rfl)
                    simp only [Act.put, List.setIfInBounds_toArray, List.set_cons_zero, List.set_cons_succ]
                    refine' wpAnyH_take (i := 34) (oi := _) (v := .pointer (some ⟨bA, oA + i * 4 + 1, none⟩)) ?hiC34 (by kernel_rfl) (by kernel_rfl) (by kernel_rfl) ?hqC34 (Or.inl ⟨?hwC34, fun w hSw => ?hyC34⟩) hHeld ?hkC34
                    case hiC34 => (simp only [List.getElem?_toArray, List.getElem?_cons_succ, List.getElem?_cons_zero]; rfl)
                    case hqC34 => exact fun _ _ _ h => h
                    case hwC34 => rfl
                    case hyC34 => first | (go_simp; done) | (go_simp; with_reducible rfl)
                    simp only [Act.put, List.setIfInBounds_toArray, List.set_cons_zero, List.set_cons_succ]
                    refine' wpAnyH_take (i := 35) (oi := _) (v := .int .i64 ya) ?hiC35 (by kernel_rfl) (by kernel_rfl) (by kernel_rfl) ?hqC35 (Or.inl ⟨?hwC35, fun w hSw => ?hyC35⟩) hHeld ?hkC35
                    case hiC35 => (simp only [List.getElem?_toArray, List.getElem?_cons_succ, List.getElem?_cons_zero]; rfl)
                    case hqC35 => exact fun _ _ _ h => h
                    case hwC35 => rfl
                    case hyC35 => first | (go_simp; done) | (go_simp; with_reducible rfl)
                    simp only [Act.put, List.setIfInBounds_toArray, List.set_cons_zero, List.set_cons_succ]
                    refine' wpAnyH_take (i := 37) (oi := _) (v := .pointer (some ⟨lb1, 0, none⟩)) ?hiC37 (by kernel_rfl) (by kernel_rfl) (by kernel_rfl) ?hqC37 (Or.inl ⟨?hwC37, fun w hSw => ?hyC37⟩) hHeld ?hkC37
                    case hiC37 => (simp only [List.getElem?_toArray, List.getElem?_cons_succ, List.getElem?_cons_zero]; rfl)
                    case hqC37 => exact fun _ _ _ h => h
                    case hwC37 => rfl
                    case hyC37 => first | (go_simp; done) | (go_simp; with_reducible rfl)
                    simp only [Act.put, List.setIfInBounds_toArray, List.set_cons_zero, List.set_cons_succ]
                    refine' wpAnyH_take (i := 38) (oi := _) (v := .slice (some ⟨bA, oA, none⟩) nA cA) ?hiC38 (by kernel_rfl) (by kernel_rfl) (by kernel_rfl) ?hqC38 (Or.inl ⟨?hwC38, fun w hSw => ?hyC38⟩) hHeld ?hkC38
                    case hiC38 => (simp only [List.getElem?_toArray, List.getElem?_cons_succ, List.getElem?_cons_zero]; rfl)
                    case hqC38 => exact fun _ _ _ h => h
                    case hwC38 => rfl
                    case hyC38 => first | (go_simp; done) | (go_simp; with_reducible rfl)
                    simp only [Act.put, List.setIfInBounds_toArray, List.set_cons_zero, List.set_cons_succ]
                    refine' wpAnyH_take (i := 39) (oi := _) (v := .int .i64 i) ?hiC39 (by kernel_rfl) (by kernel_rfl) (by kernel_rfl) ?hqC39 (Or.inl ⟨?hwC39, fun w hSw => ?hyC39⟩) hHeld ?hkC39
                    case hiC39 => (simp only [List.getElem?_toArray, List.getElem?_cons_succ, List.getElem?_cons_zero]; rfl)
                    case hqC39 => exact fun _ _ _ h => h
                    case hwC39 => rfl
                    case hyC39 => first | (go_simp; done) | (go_simp; with_reducible rfl)
                    simp only [Act.put, List.setIfInBounds_toArray, List.set_cons_zero, List.set_cons_succ]
                    refine' wpAnyH_take (i := 40) (oi := _) (v := .pointer (some ⟨bA, oA + i * 4, none⟩)) ?hiC40 (by kernel_rfl) (by kernel_rfl) (by kernel_rfl) ?hqC40 (Or.inl ⟨?hwC40, fun w hSw => ?hyC40⟩) hHeld ?hkC40
                    case hiC40 => (simp only [List.getElem?_toArray, List.getElem?_cons_succ, List.getElem?_cons_zero]; rfl)
                    case hqC40 => exact fun _ _ _ h => h
                    case hwC40 => rfl
                    case hyC40 => first | (go_simp; done) | (go_simp; with_reducible rfl)
                    simp only [Act.put, List.setIfInBounds_toArray, List.set_cons_zero, List.set_cons_succ]
                    refine' wpAnyH_take (i := 41) (oi := _) (v := .pointer (some ⟨bA, oA + i * 4 + 1, none⟩)) ?hiC41 (by kernel_rfl) (by kernel_rfl) (by kernel_rfl) ?hqC41 (Or.inl ⟨?hwC41, fun w hSw => ?hyC41⟩) hHeld ?hkC41
                    case hiC41 => (simp only [List.getElem?_toArray, List.getElem?_cons_succ, List.getElem?_cons_zero]; rfl)
                    case hqC41 => exact fun _ _ _ h => h
                    case hwC41 => rfl
                    case hyC41 => first | (go_simp; done) | (go_simp; with_reducible rfl)
                    simp only [Act.put, List.setIfInBounds_toArray, List.set_cons_zero, List.set_cons_succ]
                    refine' wpAnyH_take (i := 42) (oi := _) (v := .int .i64 ya) ?hiC42 (by kernel_rfl) (by kernel_rfl) (by kernel_rfl) ?hqC42 (Or.inl ⟨?hwC42, fun w hSw => ?hyC42⟩) hHeld ?hkC42
                    case hiC42 => (simp only [List.getElem?_toArray, List.getElem?_cons_succ, List.getElem?_cons_zero]; rfl)
                    case hqC42 => exact fun _ _ _ h => h
                    case hwC42 => rfl
                    case hyC42 => first | (go_simp; done) | (go_simp; with_reducible rfl)
                    simp only [Act.put, List.setIfInBounds_toArray, List.set_cons_zero, List.set_cons_succ]
                    refine wpAnyH_ready (rs := [36]) (by kernel_rfl) (by simp) ?_
                    refine AllReadyH.cons rfl (fun K hK => ?_) AllReadyH.nil
                    go_simp
                    go_at_call 20
                    refine (HD2.out _ hU2).mono ?_
                    rintro e9 u3 ⟨rfl, hU3⟩
                    replace hU3 := hU2.tr hU3
                    refine hK.out _ _ (HKP.out _ hU3) (fun hHeld => ?_)
                    clear hK K
                    refine wpAnyH_ready (rs := [43]) (by kernel_rfl) (by simp) ?_
                    refine AllReadyH.cons rfl (fun K hK => ?_) AllReadyH.nil
                    go_simp
                    go_at_call 20
                    refine (HD1.out _ hU3).mono ?_
                    rintro e9 u4 ⟨rfl, hU4⟩
                    replace hU4 := hU3.tr hU4
                    refine hK.out _ _ (HKP.out _ hU4) (fun hHeld => ?_)
                    clear hK K
                    refine' wpAnyH_take (i := 44) (oi := _) (v := .bool false) ?hiC44 (by kernel_rfl) (by kernel_rfl) (by kernel_rfl) ?hqC44 (Or.inl ⟨?hwC44, fun w hSw => ?hyC44⟩) hHeld ?hkC44
                    case hiC44 => (simp only [List.getElem?_toArray, List.getElem?_cons_succ, List.getElem?_cons_zero]; rfl)
                    case hqC44 => exact fun _ _ _ h => h
                    case hwC44 => rfl
                    case hyC44 => first | (go_simp; done) | (go_simp; with_reducible rfl)
                    simp only [Act.put, List.setIfInBounds_toArray, List.set_cons_zero, List.set_cons_succ]
                    refine' wpAnyH_take (i := 45) (oi := _) (v := .bool false) ?hiC45 (by kernel_rfl) (by kernel_rfl) (by kernel_rfl) ?hqC45 (Or.inl ⟨?hwC45, fun w hSw => ?hyC45⟩) hHeld ?hkC45
                    case hiC45 => (simp only [List.getElem?_toArray, List.getElem?_cons_succ, List.getElem?_cons_zero]; rfl)
                    case hqC45 => exact fun _ _ _ h => h
                    case hwC45 => rfl
                    case hyC45 => first | (go_simp; done) | (go_simp; with_reducible rfl)
                    simp only [Act.put, List.setIfInBounds_toArray, List.set_cons_zero, List.set_cons_succ]
                    refine wpAnyH_done (by kernel_rfl) ?_ _
                    clear hHeld
                    go_wp2
                    go_roundw
                    case rel => exact ⟨i + 1, HLT.out, congrArg (Value.int IntKind.i64) (Int.natCast_succ i).symm, HC7.out.tr hU4⟩
                    case measure => exact fit_meas i nA HLT.out
        · as_aux_lemma =>
          have hd : decide (i < nA) = false := decide_eq_false hlt
          obtain ⟨w8, rfl⟩ : ∃ w8 : World, w8 = wr := ⟨_, rfl⟩
          replace x0 := hC7.cell x0 id
          replace x1 := hC7.cell x1 id
          replace x2 := hC7.cell x2 id
          replace x3 := hC7.cell x3 id
          replace HC := Lib.hid (HC.out.tr hC7)
          replace HVL := Lib.hid (HVL.out.fr hC7)
          have HLOG2 := Lib.hid hlog2
          have henc := encode_any xk xa xb xn HX.out.2.2.2.2 w8
          unfold noteV GaveBE at henc
          obtain ⟨EX, hEX⟩ : ∃ e, encE xk xa xb xn = e := ⟨_, rfl⟩
          rw [hEX] at henc
          have HEX := Lib.hid hEX
          clear hlt hi hC7 hlog1 hlog2 hEX
          go_wp2_with fail
          refine henc.mono ?_
          clear henc
          rintro e9 w9 ⟨v9, rfl, hv9, hC9⟩
          replace x0 := hC9.cell x0 id
          replace x1 := hC9.cell x1 id
          replace x2 := hC9.cell x2 id
          replace x3 := hC9.cell x3 id
          replace HC := Lib.hid (HC.out.tr hC9)
          replace HVL := Lib.hid (HVL.out.fr hC9)
          replace HLOG2 := Lib.hid (log_fr HLOG2.out hC9)
          have HV9 := Lib.hid hv9
          have hbg := begun_any HLOG2.out
          clear hv9 hC9
          by_cases hE : EX = 0
          · have f1 : (EX != 0) = false := by rw [hE]; rfl
            by_cases hk : xk = 2
            · have f2 : (xk != 2) = false := by rw [hk]; rfl
              have HXK := Lib.hid (And.intro hE hk)
              clear hE hk
              cases bg2 with
              | false =>
                go_wp2_with fail
                refine hbg.mono ?_
                rintro e9 wA ⟨rfl, e1⟩
                obtain rfl : w9 = wA := e1.symm
                go_wp2
                go_ret
                exact ⟨rfl, HC.out⟩
              | true =>
                have HX2 := Lib.hid (show (Nt.mk xk xa xb xn).ok from HX.out)
                have HMAY := Lib.hid (show (Nt.mk xk xa xb xn).may = true from by
                  rcases encE_or xk xa xb xn with h | h
                  · exact h.1
                  · rw [HEX.out, HXK.out.1] at h; cases h.2)
                obtain ⟨a9, L9, c9, rfl, _⟩ := owns_name HV9.out
                have hkw : IntKind.i64.wrap ((n : Int) - 1) = (n : Int) - 1 := IntWalk.i64_in _ (by have := HNB.out; omega)
                by_cases hlen : nL + 1 = n
                · have f3 : ((nL : Int) != (n : Int) - 1) = false := by rw [bne_eq_false_iff_eq]; omega
                  by_cases h0 : nL = 0
                  · have f4 : decide (0 < nL) = false := decide_eq_false (by omega)
                    have hend : ∀ y, L.getLast? = some y → y.k ≤ 3 := fun y hy => by
                      have : L = [] := List.eq_nil_of_length_eq_zero (by rw [HNA.out.2.1]; exact h0)
                      rw [this] at hy
                      simp at hy
                    clear h0
                    as_aux_lemma =>
                      obtain ⟨hn1, hn2, hn3⟩ := more_plain HBL.out.1 HBL.out.2 (by have := HNA.out; have := HN.out; omega) hend ⟨HMAY.out, HX2.out⟩ HXK.out.2
                      have hlx := (enc_may HMAY.out HX2.out).2.2.2
                      have HHN := Lib.hid (And.intro hn1 (And.intro hn2 hn3))
                      have HLX := Lib.hid hlx
                      have hPW := HP.out.fr HC.out
                      obtain ⟨vsl, u1, u2, u3, u4⟩ := pay_parts hPW
                      obtain ⟨i0, hinf, hz0, hz1, hz2⟩ := info_parts info_bytes
                      have HU := Lib.hid u4
                      have HU2 := Lib.hid u2
                      have HSZ := Lib.hid (show 0 + n ≤ maxLen ∧ (0 + n) * 24 ≤ 140737488355328 ∧ 0 + n + 1 ≤ maxLen ∧ (0 + n + 1) * 24 ≤ 140737488355328 by have := HNB.out; unfold maxLen; omega)
                      clear u2 u4 hPW hend hn1 hn2 hn3 hlx
                      go_wp2_with fail
                      refine hbg.mono ?_
                      clear hbg
                      rintro e9 wA ⟨rfl, e1⟩
                      obtain rfl : w9 = wA := e1.symm
                      go_wp2_with (first
                        | (at_builtin; (refine wpList_append_own_any rfl (.tmp 211) (.tmp 212) 36 rfl w9.heap.size 24 i0 (.slice none 0 0) 1 24 und_pays hinf hz0 hz1 hz2 rfl (by decide) (.slice (some ⟨w9.heap.size, 0, none⟩) 0 0) 0 [] rfl (World.ownsRow_lit w9 #[] 0 (Nat.le_refl _) (Nat.zero_le _) rfl) pa n pc vsl rfl u1 (HU2.out _ ((Chg.refl (fun _ => False) w9).alloc (.cells #[] 24))) u3 HSZ.out.1 HSZ.out.2.1 (by simp) ?_; intro vB wB hownB hgB _ hOB; have hCB : Chg (fun _ => False) w9 wB := ((Chg.refl (fun _ => False) w9).alloc (.cells #[] 24)).grown hgB (fun k e => .inr (by simp [Value.ownBlock] at e; omega)); have hleB := own_leB hCB (.cells #[.slice a9 L9 c9] 24)))
                        | (at_builtin; (refine wpList_append_own_any rfl (.tmp 213) (.tmp 215) 36 rfl w9.heap.size 24 i0 (.slice none 0 0) 1 24 und_pays hinf hz0 hz1 hz2 rfl (by decide) vB _ _ rfl (hownB.alloc (.cells #[.slice a9 L9 c9] 24)) (some ⟨wB.heap.size, 0, none⟩) 1 1 [.slice a9 L9 c9] rfl rfl (fun j u hu => ⟨_, rfl, cell_one_new wB _ _ j u hu⟩) (by simp [Value.oneCell']) HSZ.out.2.2.1 HSZ.out.2.2.2 hleB ?_; intro vD wD hownD hgD _ hOD; have hCD : Chg (fun _ => False) w9 wD := (hCB.alloc (.cells #[.slice a9 L9 c9] 24)).grown hgD (fun k e => .inr (hownB.lt k e).1))))
                      rw [List.nil_append] at hownD
                      have hP9 := pay_cat hownD HU.out.1 (show [Value.slice a9 L9 c9].length = [encN ⟨xk, xa, xb, xn⟩].length from rfl) (HU.out.2 _ hCD) (fun j u xs hu hx => by
                        cases j with
                        | zero =>
                          simp only [List.getElem?_cons_zero, Option.some.injEq] at hu hx
                          rw [← hu, ← hx]
                          exact (Sl.of_owns HV9.out).fr hCD
                        | succ j => simp at hu)
                      have hnw := newP_any s _ vD wD hP9 (by simp; have := HN.out; have := HNB.out; omega) (fun xs hx => by
                        rcases List.mem_append.1 hx with h | h
                        · have := HGR.out.2 xs h; omega
                        · rw [List.mem_singleton.1 h, HLX.out]; decide) true _ _ HHN.out.1 HHN.out.2.1 HHN.out.2.2
                      unfold GaveG at hnw
                      refine hnw.mono ?_
                      clear hnw hP9 hownD hgD hOD hownB hgB hOB hCB hleB u1 u3
                      rintro e9 wE ⟨lb3, mb3, ba3, vl3, st3, rfl, hLm, _, hC10⟩
                      have hCE := hCD.tr hC10
                      replace x0 := hCE.cell x0 id
                      replace x1 := hCE.cell x1 id
                      replace x2 := hCE.cell x2 id
                      replace x3 := hCE.cell x3 id
                      replace HC := Lib.hid (HC.out.tr hCE)
                      have ht := tile_any hLm (fun z hz => by
                        rcases List.mem_cons.1 hz with rfl | hz
                        · exact HX2.out
                        · exact (fl_ok HLOK.out.1 (by have := HLOK.out.2; have := HNB.out; omega)).1 z hz) xa xb HX.out.2.1 HX.out.2.2.1
                      rw [show fileOf ((⟨xk, xa, xb, xn⟩ : Nt) :: (fil L).reverse) 2 xa xb = some xn from if_pos ⟨HXK.out.2, rfl, rfl⟩] at ht
                      unfold FileV at ht
                      have HLM := Lib.hid hLm
                      clear hLm hCE hCD hC10
                      go_wp2_with fail
                      refine ht.mono ?_
                      clear ht
                      rintro e9 wF ⟨rfl, hCF⟩
                      replace x3 := hCF.cell x3 id
                      replace HC := Lib.hid (HC.out.tr hCF)
                      have hnt := notes_any (log_fr HLM.out hCF) (show (L ++ [(⟨xk, xa, xb, xn⟩ : Nt)]).length ≤ 1000000 by have := HLOK.out.2; have := HNB.out; simp; omega)
                      unfold GaveNs at hnt
                      have g1 : (xn == xn) = true := by simp
                      have g2 : IntKind.i64.wrap ((nL : Int) + 1) = (nL : Int) + 1 := IntWalk.i64_in _ (by have := HNA.out; have := HNB.out; omega)
                      clear hCF
                      go_wp2_with fail
                      refine hnt.mono ?_
                      clear hnt g1
                      rintro e9 wG ⟨vG, rfl, hvG, hCG⟩
                      replace hvG : wG.ownsRow wF.heap.size 23 4 vG (L ++ [(⟨xk, xa, xb, xn⟩ : Nt)]).length (flatN (L ++ [(⟨xk, xa, xb, xn⟩ : Nt)])) := hvG
                      obtain ⟨aG, nG, cG, rfl, hG9⟩ := owns_name hvG
                      have g3 : ((nG : Int) == (nL : Int) + 1) = true := by
                        rw [beq_iff_eq, hG9.out, List.length_append]
                        have := HNA.out.2.1
                        simp
                        omega
                      clear hG9 hvG
                      go_wp2
                      go_ret
                      exact ⟨rfl, HC.out.tr hCG⟩
                  · obtain ⟨r, hr⟩ : ∃ r, nL = r + 1 := ⟨nL - 1, by omega⟩
                    have f4 : decide (0 < nL) = true := decide_eq_true (by omega)
                    have hqw : IntKind.i64.wrap ((nL : Int) - 1) = (r : Int) := by rw [hr]; exact (IntWalk.i64_in _ (by have := HNB.out; omega)).trans (by omega)
                    have r1 : (0 : Int) ≤ (r : Int) := Int.natCast_nonneg r
                    have r2 : (r : Int) < (nL : Int) := by omega
                    obtain ⟨b, o, c', e1, hz⟩ := HVL.out.cells r (by rw [HNA.out.2.1]; omega)
                    obtain ⟨z, hzz⟩ : ∃ z, L[r]'(by rw [HNA.out.2.1]; omega) = z := ⟨_, rfl⟩
                    rw [hzz] at hz
                    injection e1 with e1 e2 e3
                    clear e2 e3
                    subst e1
                    have z0 := hz.c0
                    have hlast : L.getLast? = some z := by
                      rw [List.getLast?_eq_getElem?, show L.length - 1 = r by rw [HNA.out.2.1]; omega, List.getElem?_eq_getElem (by rw [HNA.out.2.1]; omega), hzz]
                    obtain ⟨zk, za, zb, zn⟩ := z
                    simp only at z0
                    by_cases h3 : 3 < zk
                    · have f5 : decide (3 < zk) = true := decide_eq_true h3
                      clear hlast hz hzz hr h3 h0
                      go_wp2_with fail
                      refine hbg.mono ?_
                      rintro e9 wA ⟨rfl, e1⟩
                      obtain rfl : w9 = wA := e1.symm
                      go_wp2
                      go_ret
                      exact ⟨rfl, HC.out⟩
                    · have f5 : decide (3 < zk) = false := decide_eq_false h3
                      have hend : ∀ y, L.getLast? = some y → y.k ≤ 3 := fun y hy => by
                        rw [hlast] at hy
                        have := Option.some.inj hy
                        subst this
                        simp
                        omega
                      clear hlast hz hzz hr h3 h0
                      as_aux_lemma =>
                      obtain ⟨hn1, hn2, hn3⟩ := more_plain HBL.out.1 HBL.out.2 (by have := HNA.out; have := HN.out; omega) hend ⟨HMAY.out, HX2.out⟩ HXK.out.2
                      have hlx := (enc_may HMAY.out HX2.out).2.2.2
                      have HHN := Lib.hid (And.intro hn1 (And.intro hn2 hn3))
                      have HLX := Lib.hid hlx
                      have hPW := HP.out.fr HC.out
                      obtain ⟨vsl, u1, u2, u3, u4⟩ := pay_parts hPW
                      obtain ⟨i0, hinf, hz0, hz1, hz2⟩ := info_parts info_bytes
                      have HU := Lib.hid u4
                      have HU2 := Lib.hid u2
                      have HSZ := Lib.hid (show 0 + n ≤ maxLen ∧ (0 + n) * 24 ≤ 140737488355328 ∧ 0 + n + 1 ≤ maxLen ∧ (0 + n + 1) * 24 ≤ 140737488355328 by have := HNB.out; unfold maxLen; omega)
                      clear u2 u4 hPW hend hn1 hn2 hn3 hlx
                      go_wp2_with fail
                      refine hbg.mono ?_
                      clear hbg
                      rintro e9 wA ⟨rfl, e1⟩
                      obtain rfl : w9 = wA := e1.symm
                      go_wp2_with (first
                        | (at_builtin; (refine wpList_append_own_any rfl (.tmp 211) (.tmp 212) 36 rfl w9.heap.size 24 i0 (.slice none 0 0) 1 24 und_pays hinf hz0 hz1 hz2 rfl (by decide) (.slice (some ⟨w9.heap.size, 0, none⟩) 0 0) 0 [] rfl (World.ownsRow_lit w9 #[] 0 (Nat.le_refl _) (Nat.zero_le _) rfl) pa n pc vsl rfl u1 (HU2.out _ ((Chg.refl (fun _ => False) w9).alloc (.cells #[] 24))) u3 HSZ.out.1 HSZ.out.2.1 (by simp) ?_; intro vB wB hownB hgB _ hOB; have hCB : Chg (fun _ => False) w9 wB := ((Chg.refl (fun _ => False) w9).alloc (.cells #[] 24)).grown hgB (fun k e => .inr (by simp [Value.ownBlock] at e; omega)); have hleB := own_leB hCB (.cells #[.slice a9 L9 c9] 24)))
                        | (at_builtin; (refine wpList_append_own_any rfl (.tmp 213) (.tmp 215) 36 rfl w9.heap.size 24 i0 (.slice none 0 0) 1 24 und_pays hinf hz0 hz1 hz2 rfl (by decide) vB _ _ rfl (hownB.alloc (.cells #[.slice a9 L9 c9] 24)) (some ⟨wB.heap.size, 0, none⟩) 1 1 [.slice a9 L9 c9] rfl rfl (fun j u hu => ⟨_, rfl, cell_one_new wB _ _ j u hu⟩) (by simp [Value.oneCell']) HSZ.out.2.2.1 HSZ.out.2.2.2 hleB ?_; intro vD wD hownD hgD _ hOD; have hCD : Chg (fun _ => False) w9 wD := (hCB.alloc (.cells #[.slice a9 L9 c9] 24)).grown hgD (fun k e => .inr (hownB.lt k e).1))))
                      rw [List.nil_append] at hownD
                      have hP9 := pay_cat hownD HU.out.1 (show [Value.slice a9 L9 c9].length = [encN ⟨xk, xa, xb, xn⟩].length from rfl) (HU.out.2 _ hCD) (fun j u xs hu hx => by
                        cases j with
                        | zero =>
                          simp only [List.getElem?_cons_zero, Option.some.injEq] at hu hx
                          rw [← hu, ← hx]
                          exact (Sl.of_owns HV9.out).fr hCD
                        | succ j => simp at hu)
                      have hnw := newP_any s _ vD wD hP9 (by simp; have := HN.out; have := HNB.out; omega) (fun xs hx => by
                        rcases List.mem_append.1 hx with h | h
                        · have := HGR.out.2 xs h; omega
                        · rw [List.mem_singleton.1 h, HLX.out]; decide) true _ _ HHN.out.1 HHN.out.2.1 HHN.out.2.2
                      unfold GaveG at hnw
                      refine hnw.mono ?_
                      clear hnw hP9 hownD hgD hOD hownB hgB hOB hCB hleB u1 u3
                      rintro e9 wE ⟨lb3, mb3, ba3, vl3, st3, rfl, hLm, _, hC10⟩
                      have hCE := hCD.tr hC10
                      replace x0 := hCE.cell x0 id
                      replace x1 := hCE.cell x1 id
                      replace x2 := hCE.cell x2 id
                      replace x3 := hCE.cell x3 id
                      replace HC := Lib.hid (HC.out.tr hCE)
                      have ht := tile_any hLm (fun z hz => by
                        rcases List.mem_cons.1 hz with rfl | hz
                        · exact HX2.out
                        · exact (fl_ok HLOK.out.1 (by have := HLOK.out.2; have := HNB.out; omega)).1 z hz) xa xb HX.out.2.1 HX.out.2.2.1
                      rw [show fileOf ((⟨xk, xa, xb, xn⟩ : Nt) :: (fil L).reverse) 2 xa xb = some xn from if_pos ⟨HXK.out.2, rfl, rfl⟩] at ht
                      unfold FileV at ht
                      have HLM := Lib.hid hLm
                      clear hLm hCE hCD hC10
                      go_wp2_with fail
                      refine ht.mono ?_
                      clear ht
                      rintro e9 wF ⟨rfl, hCF⟩
                      replace x3 := hCF.cell x3 id
                      replace HC := Lib.hid (HC.out.tr hCF)
                      have hnt := notes_any (log_fr HLM.out hCF) (show (L ++ [(⟨xk, xa, xb, xn⟩ : Nt)]).length ≤ 1000000 by have := HLOK.out.2; have := HNB.out; simp; omega)
                      unfold GaveNs at hnt
                      have g1 : (xn == xn) = true := by simp
                      have g2 : IntKind.i64.wrap ((nL : Int) + 1) = (nL : Int) + 1 := IntWalk.i64_in _ (by have := HNA.out; have := HNB.out; omega)
                      clear hCF
                      go_wp2_with fail
                      refine hnt.mono ?_
                      clear hnt g1
                      rintro e9 wG ⟨vG, rfl, hvG, hCG⟩
                      replace hvG : wG.ownsRow wF.heap.size 23 4 vG (L ++ [(⟨xk, xa, xb, xn⟩ : Nt)]).length (flatN (L ++ [(⟨xk, xa, xb, xn⟩ : Nt)])) := hvG
                      obtain ⟨aG, nG, cG, rfl, hG9⟩ := owns_name hvG
                      have g3 : ((nG : Int) == (nL : Int) + 1) = true := by
                        rw [beq_iff_eq, hG9.out, List.length_append]
                        have := HNA.out.2.1
                        simp
                        omega
                      clear hG9 hvG
                      go_wp2
                      go_ret
                      exact ⟨rfl, HC.out.tr hCG⟩
                · have f3 : ((nL : Int) != (n : Int) - 1) = true := by rw [bne_iff_ne]; omega
                  clear hlen
                  go_wp2_with fail
                  refine hbg.mono ?_
                  rintro e9 wA ⟨rfl, e1⟩
                  obtain rfl : w9 = wA := e1.symm
                  go_wp2
                  go_ret
                  exact ⟨rfl, HC.out⟩
            · have f2 : (xk != 2) = true := bne_iff_ne.2 hk
              clear hE hk hbg
              go_wp2
              go_ret
              exact ⟨rfl, HC.out⟩
          · have f1 : (EX != 0) = true := bne_iff_ne.2 hE
            clear hE hbg
            go_wp2
            go_ret
            exact ⟨rfl, HC.out⟩
end Go.Proofs.Ytpiboaoifcajdaa
