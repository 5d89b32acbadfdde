/- The document's fold: the inner product (printed by inner.py). -/
import Derived.Test.YtjmlekdgipinfaaMp48
import Derived.Test.YtjmlekdgipinfaaMp49
import Derived.Deep.RegionHeld3
namespace Go.Proofs.Ytjmlekdgipinfaa
open Go.RowKit Go.Shelf

theorem icut_low {w : World} {v : Value} {xs : List Int} (h : Ls w v xs) (lo : Nat) (h1 : lo ≤ xs.length) : ∃ ao c, Ls w (.slice ao (xs.length - lo) c) (xs.drop lo) ∧ (∀ W, (Instr.slice 22 v (some (.int .i64 (lo : Int))) none none).run Try.prog W = .ok (.slice ao (xs.length - lo) c) W) := by
  obtain ⟨ao, c, hS, _, _, h4, _⟩ := Sl.slice (P := Try.prog) 22 3 Try.underlying22 fsizeOf_int h lo xs.length h1 (by rw [List.length_map]; exact Nat.le_refl _)
  refine ⟨ao, c, ?_, h4 (by rw [List.length_map])⟩
  unfold Ls
  rw [List.take_of_length_le (by rw [List.length_map]; exact Nat.le_refl _)] at hS
  rw [List.map_drop]
  exact hS
theorem lng_bd {A B : Ar} (hA : shB A.s = true) (hB : shB B.s = true) : 0 ≤ lngI A B ∧ lngI A B ≤ 4096 := by
  have iA := shB_iff.1 hA
  have iB := shB_iff.1 hB
  unfold lngI
  by_cases h : A.s = []
  · rw [h]
    show 0 ≤ B.s.headD 1 ∧ B.s.headD 1 ≤ 4096
    cases hb : B.s with
    | nil => exact ⟨by decide, by decide⟩
    | cons x r => exact iB.2.1 x (by rw [hb]; simp)
  · obtain ⟨x, hx, hd⟩ := last_split h
    rw [hd]
    exact iA.2.1 x (by rw [hx]; simp)
theorem get_In {l : List Int} (h : ∀ x ∈ l, In x) (i : Nat) : In (l.getD i 0) := by
  rw [List.getD_eq_getElem?_getD]
  by_cases hi : i < l.length
  · rw [List.getElem?_eq_getElem hi]; exact h _ (List.getElem_mem hi)
  · rw [List.getElem?_eq_none (by omega)]; unfold In; decide
theorem le_all1 {n : Nat} {w : World} (h : n ≤ w.heap.size) (o : Obj) : n ≤ (w.alloc o).heap.size := by rw [World.size_alloc]; exact Nat.le_succ_of_le h
theorem cell_at0 {w : World} {b : Nat} {x : Value} (h : w.cell? ⟨b, 0, none⟩ = some x) (j : Nat) (u : Value) (hu : [x][j]? = some u) : w.cell? ((⟨b, 0, none⟩ : Addr).add j) = some u := by
  cases j with
  | zero => simp at hu; subst hu; exact h
  | succ j => simp at hu
theorem own_cons1 {w : World} {base t : Nat} {v : Value} {x : Int} {xs : List Int} {n : Nat} (h : w.ownsRow base t 1 v (1 + n) ([.int .i64 x] ++ xs.map I)) (hn : n = xs.length) : Own w base t v (x :: xs) := by
  subst hn
  unfold Own
  rw [List.length_cons, Nat.add_comm]
  exact h
set_option maxRecDepth 100000 in
set_option maxHeartbeats 1000000 in
theorem r16inner_a0 (f g : Int) (u v : Value) (A B : Ar) (w : World) (hA : Ara w u A) (hB : Ara w v B) (hl1 : A.e.length ≤ 1000000) (hl2 : B.e.length ≤ 1000000) (hI1 : ∀ x ∈ A.e, In x) (hI2 : ∀ x ∈ B.e, In x) (hE : isE f g A B = 0) (ha : A.s.length = 0) : Calls Try.prog 38 #[.int .i64 f, .int .i64 g, u, v] w (GaveAE w (innA f g A B) (innE f g A B)) := by
  obtain ⟨i0, hi, hz0, hz1, hz2⟩ := info_parts info_long
  obtain ⟨j0, hj0, hy0, hy1, hy2⟩ := info_parts info_int
  obtain ⟨vs, ve, rfl, hs, he⟩ := hA
  obtain ⟨us, ue, rfl, ht, hf⟩ := hB
  obtain ⟨sa, cs, rfl, _⟩ := hs.form
  obtain ⟨ea, ce, rfl, _⟩ := he.form
  obtain ⟨ta, ct, rfl, _⟩ := ht.form
  obtain ⟨fa, cf, rfl, _⟩ := hf.form
  have hK1 := (Chg.refl (fun _ => False) w).alloc (.cells #[.int .i64 A.k, .slice sa A.s.length cs, .slice ea A.e.length ce] 25)
  have hK2 := (Chg.refl (fun _ => False) (w.alloc (.cells #[.int .i64 A.k, .slice sa A.s.length cs, .slice ea A.e.length ce] 25))).alloc (.cells #[.int .i64 B.k, .slice ta B.s.length ct, .slice fa B.e.length cf] 25)
  have hK3 := (Chg.refl (fun _ => False) ((w.alloc (.cells #[.int .i64 A.k, .slice sa A.s.length cs, .slice ea A.e.length ce] 25)).alloc (.cells #[.int .i64 B.k, .slice ta B.s.length ct, .slice fa B.e.length cf] 25))).alloc (.cells #[.int .i64 0, .slice none 0 0, .slice none 0 0] 25)
  have hbb := (Bx1.new (A := B) 25 (ht.fr hK1) (hf.fr hK1)).fr hK3
  rw [World.size_alloc] at hbb
  have hb0 := Bx.new ((w.alloc (.cells #[.int .i64 A.k, .slice sa A.s.length cs, .slice ea A.e.length ce] 25)).alloc (.cells #[.int .i64 B.k, .slice ta B.s.length ct, .slice fa B.e.length cf] 25)) (.int .i64 0) (.slice none 0 0) (.slice none 0 0) 25
  rw [World.size_alloc, World.size_alloc] at hb0
  have HBA := Lib.hid ((Bx1.new (A := A) 25 hs he).fr (hK2.tr hK3))
  have HBB := Lib.hid hbb
  have HB0 := Lib.hid hb0
  have HC := Lib.hid ((hK1.tr hK2).tr hK3)
  clear hs he ht hf hK1 hK2 hK3 hbb hb0
  have his := r16innerS_any f g _ _ A B _ HBA.out.ara HBB.out.ara hl1 hl2
  unfold GaveIS at his
  rw [hE] at his
  obtain ⟨h1, _, h3, h4⟩ := is_zero hE
  obtain ⟨hcA, hcB⟩ := ck_zero h1
  have sA := (chkB_iff.1 hcA).1
  have sB := (chkB_iff.1 hcB).1
  obtain ⟨L, hL⟩ := Int.eq_ofNat_of_zero_le (lng_bd sA sB).1
  have hL4 : L ≤ 4096 := by have := (lng_bd sA sB).2; omega
  have hLn : (lngI A B).toNat = L := by omega
  obtain ⟨N, hN⟩ : ∃ N, innN A B = N := ⟨_, rfl⟩
  have iS := shB_iff.1 h4
  have hPN : prodL (shpI A B) = (N : Int) := by
    have h0 := prodL_nonneg _ (fun l hl => (iS.2.1 l hl).1)
    rw [← hN]; unfold innN; omega
  have hN4 : N ≤ 4096 := by have := iS.2.2; omega
  obtain ⟨C, hCC⟩ : ∃ C, colN B = C := ⟨_, rfl⟩
  have HAT := Lib.hid (fun n hn => in_at hE n hn)
  rw [hLn, hN, hCC] at HAT
  obtain ⟨Q, hQ⟩ : ∃ Q, inQ (mixP g A.k B.k) A B C L = Q := ⟨_, rfl⟩
  have HQ := Lib.hid (show ∀ n k, Q n k = mixP g A.k B.k (A.e.getD (iaN A C L n k) 0) (B.e.getD (ibN B C n k) 0) from fun n k => by rw [← hQ]; rfl)
  have HQI := Lib.hid (show ∀ n k, In (Q n k).1 from fun n k => by rw [HQ.out]; exact mixP_In (get_In hI1 _) (get_In hI2 _))
  obtain ⟨el, hel⟩ : ∃ el, inP f (mixP g A.k B.k) A B C L = el := ⟨_, rfl⟩
  have HEL := Lib.hid (show ∀ n, el n = if fstE (tabP L (Q n)) = 0 then rwP f (tabV L (Q n)) else (0, fstE (tabP L (Q n))) from fun n => by rw [← hel, ← hQ]; rfl)
  have HRE := Lib.hid (show innE f g A B = mdE N el by unfold innE; rw [if_pos hE, hN, hLn, hCC, hel])
  obtain ⟨S, hS⟩ : ∃ S, shpI A B = S := ⟨_, rfl⟩
  have HRA := Lib.hid (show innA f g A B = if innE f g A B = 0 then ⟨1, S, tabV N el⟩ else noA by unfold innA; rw [hN, hLn, hCC, hel, hS])
  rw [hS] at h4 hPN his HAT
  have HSS := Lib.hid (And.intro h4 hPN)
  have HSL := Lib.hid (show S.length ≤ 1000000 by have := (shB_iff.1 h4).1; omega)
  have HB4 := Lib.hid (And.intro hL4 hN4)
  have HKN := Lib.hid h3
  have HIN := Lib.hid (And.intro hI1 hI2)
  have hnA4 := (shB_iff.1 sA).1
  obtain ⟨nA, hnA⟩ : ∃ n, A.s.length = n := ⟨_, rfl⟩
  obtain ⟨nB, hnB⟩ : ∃ n, B.s.length = n := ⟨_, rfl⟩
  have HN := Lib.hid (And.intro hnA hnB)
  rw [hL] at his
  rw [hnA, hnB] at HBA HBB HB0 HC his ⊢
  rw [hnA] at ha hnA4
  obtain rfl := ha
  have hd0 : (0 : Int) < ((0 : Nat) : Int) ↔ False := by simp
  have HA0 := Lib.hid (show A.s = [] from List.eq_nil_of_length_eq_zero HN.out.1)
  have HDL := Lib.hid (show A.s.dropLast.length = 0 by rw [HA0.out]; rfl)
  clear hE h1 h3 h4 hcA hcB sA sB hL hL4 hLn hN iS hPN hN4 hCC hQ hel hS hI1 hI2 hnA hnB hl1 hl2 hnA4
  have hcn : ∀ w' v', Ls w' v' S → Calls Try.prog 68 #[v'] w' (fun e w2 => e = .returned (.tuple #[.int .i64 N, .int .i64 0]) ∧ w2 = w') := fun w' v' h => by
    have h1 := r11count_any _ _ _ h
    unfold GaveC at h1
    rw [cntE_ok HSS.out.1, cntN_ok HSS.out.1, HSS.out.2] at h1
    exact h1
  go_enter Try.func38, Try.ntmps38
  go_wp2_with fail
  refine his.mono ?_
  clear his
  rintro e9 wb ⟨vh, L', rfl, hC1, ho, _⟩
  obtain ⟨rfl, ho2⟩ := ho (by first | rfl | trivial)
  obtain ⟨ah, ch, rfl⟩ := own_name ho2
  have HLK := Lib.hid ho2.ls
  replace HBA := Lib.hid (HBA.out.fr hC1)
  replace HBB := Lib.hid (HBB.out.fr hC1)
  replace HB0 := Lib.hid (HB0.out.fr hC1)
  replace HC := Lib.hid (HC.out.tr hC1)
  obtain ⟨gb, hgb⟩ : ∃ gb, wb.heap.size = gb := ⟨_, rfl⟩
  have HRB := Lib.hid (show w.heap.size + 1 + 1 < gb from hgb ▸ HB0.out.lt)
  have HGB := Lib.hid (show wb.heap.size ≤ gb from hgb ▸ Nat.le_refl _)
  have HGB2 := Lib.hid (show gb ≤ wb.heap.size from hgb ▸ Nat.le_refl _)
  clear hC1 hgb ho ho2
  go_wp2_with fail
  refine (hcn _ _ HLK.out).mono ?_
  clear hcn
  rintro e9 w2 ⟨rfl, rfl⟩
  have a1 := HBA.out.a1
  rw [HN.out.1] at a1
  go_wp2
  clear a1
  go_loopw [16, 17] (fun tv i wr => ∃ j : Nat, j ≤ N ∧ i = .int .i64 j ∧ fstE (tabP j el) = 0 ∧ Own wr gb 2 tv (tabV j el) ∧ Chg (fun _ => False) w2 wr) (fun _ i _ => N - (intOf i).toNat)
  case atStart => exact ⟨0, Nat.zero_le _, rfl, rfl, Own.nil _ _ _, Chg.refl _ _⟩
  case round =>
    obtain ⟨j, hj, rfl, hok, hown, hC⟩ := hrel
    by_cases hlt : j < N
    · have hlt' : decide ((j : Int) < (N : Int)) = true := decide_eq_true (by omega)
      have hlt2 : decide (j < N) = true := decide_eq_true hlt
      have hkw : IntKind.i64.wrap ((j : Int) + 1) = (j : Int) + 1 := IntWalk.i64_in _ (by have := HB4.out; omega)
      obtain ⟨xs, ys, hxy, hxl, hK⟩ := HAT.out j hlt
      have hat := r11at_any _ S (j : Int) wr (HLK.out.fr hC) HSS.out.1 (by omega) (by rw [HSS.out.2]; omega)
      unfold GaveLB at hat
      rw [hxy] at hat
      have HK := Lib.hid hK
      have HXL := Lib.hid (hxl.trans HDL.out)
      have HYS := Lib.hid (show ys.length ≤ 4 by
        have h9 := congrArg List.length hxy
        rw [atL_length, List.length_append] at h9
        have := (shB_iff.1 HSS.out.1).1
        omega)
      have hs1 := fstE_succ hok
      have HALL := Lib.hid (fun h => fstE_all (n := N) (k := j + 1) (el := el) hlt h)
      have hv1 := tabV_succ j el
      have hpl : (tabV j el).length ≤ 1000000 := by rw [tabV_length]; have := HB4.out; omega
      have HQJ := Lib.hid (HQ.out j)
      have HQI2 := Lib.hid (HQI.out j)
      have HELJ := Lib.hid (HEL.out j)
      generalize tabV j el = pre at *
      generalize el j = q at *
      generalize Q j = qj at *
      have HV := Lib.hid hv1
      have HS1 := Lib.hid hs1
      have HLT := Lib.hid hlt
      obtain ⟨al, Ll, cl, rfl, hLn⟩ := own_nm hown
      have HO := Lib.hid hown
      have HPL := Lib.hid (app_ok hpl)
      have HCX := Lib.hid hC
      clear hK hxy hxl hok hown hC hs1 hv1 hlt hj hLn hpl
      go_wp2_with fail
      refine hat.mono ?_
      clear hat
      rintro e9 wa ⟨v3, rfl, ho3, hC3⟩
      obtain ⟨aa, la, ca, rfl, hla⟩ := own_nm ho3
      have HAT2 := Lib.hid ho3.ls
      have HCA := Lib.hid (HCX.out.tr hC3)
      replace HO := Lib.hid (HO.out.fr hC3)
      obtain ⟨gc, hgc⟩ : ∃ gc, wa.heap.size = gc := ⟨_, rfl⟩
      have HGC := Lib.hid (show wa.heap.size ≤ gc from hgc ▸ Nat.le_refl _)
      have HGC2 := Lib.hid (show gc ≤ wa.heap.size from hgc ▸ Nat.le_refl _)
      clear hC3 ho3 hla hgc
      go_wp2
      go_loopw [20, 21] (fun tv i wz => ∃ k : Nat, k ≤ L ∧ i = .int .i64 k ∧ fstE (tabP k qj) = 0 ∧ Own wz gc 2 tv (tabV k qj) ∧ Chg (fun _ => False) wa wz) (fun _ i _ => L - (intOf i).toNat)
      case atStart => exact ⟨0, Nat.zero_le _, rfl, rfl, Own.nil _ _ _, Chg.refl _ _⟩
      case round =>
        obtain ⟨k, hk, rfl, hok, hown, hC⟩ := hrel
        by_cases hkl : k < L
        · have d1 : decide ((k : Int) < (L : Int)) = true := decide_eq_true (by omega)
          have d2 : decide (k < L) = true := decide_eq_true hkl
          obtain ⟨hp1, hp2, hp3, hp4⟩ := HK.out k hkl
          have hkw2 : IntKind.i64.wrap ((k : Int) + 1) = (k : Int) + 1 := IntWalk.i64_in _ (by have := HB4.out; omega)
          have hs1 := fstE_succ hok
          have HALLQ := Lib.hid (fun h => fstE_all (n := L) (k := k + 1) (el := qj) hkl h)
          have hv1 := tabV_succ k qj
          have hpl : (tabV k qj).length ≤ 1000000 := by rw [tabV_length]; have := HB4.out; omega
          have hqk := HQJ.out k
          generalize tabV k qj = prq at *
          generalize qj k = qk at *
          have HVQ := Lib.hid hv1
          have HS1Q := Lib.hid hs1
          have HKL := Lib.hid hkl
          obtain ⟨aq, Lq, cq, rfl, hLq⟩ := own_nm hown
          have HOQ := Lib.hid hown
          have HPLQ := Lib.hid (app_ok hpl)
          have HCr := Lib.hid hC
          have HCW := Lib.hid (HCA.out.tr hC)
          have HATR := Lib.hid (HAT2.out.fr hC)
          have hia0 : iaN A C L j k = 0 := by unfold iaN; rw [if_pos HA0.out]
          rw [hia0] at hp1 hp2 hqk
          have HATL := Lib.hid (show (xs ++ ys).length ≤ 100 by rw [List.length_append, HXL.out]; have := HYS.out; omega)
          clear hia0
          obtain ⟨ib, hib⟩ : ∃ ib, ibN B C j k = ib := ⟨_, rfl⟩
          rw [hib] at hp3 hp4 hqk
          have HP1 := Lib.hid hp1
          have HP2 := Lib.hid hp2
          have HP3 := Lib.hid hp3
          have HP4 := Lib.hid hp4
          have HIB := Lib.hid hib
          have HQK := Lib.hid hqk
          clear hp1 hp2 hp3 hp4 hqk hib hok hown hC hs1 hv1 hkl hk hpl hLq
          have a1x := (HBA.out.fr HCW.out).a1
          rw [HN.out.1] at a1x
          have b1x := (HBB.out.fr (HCW.out.tr (Chg.refl (fun _ => False) wr))).a1
          rw [HN.out.2] at b1x
          rcases Nat.eq_zero_or_pos nB with hb | hb
          · have _u := True.intro
            clear _u
            have e1 : decide (0 < nB) = false := decide_eq_false (by omega)
            have e2 : decide ((0 : Int) < (nB : Int)) = false := decide_eq_false (by omega)
            obtain rfl : ib = 0 := by
              rw [← HIB.out]
              unfold ibN
              rw [if_pos (List.eq_nil_of_length_eq_zero (by rw [HN.out.2]; exact hb))]
            clear hb
            have HCV := Lib.hid (Chg.refl (fun _ => False) wr)
            have a0 := (HBA.out.fr (HCW.out.tr HCV.out)).a0
            have a2 := (HBA.out.fr (HCW.out.tr HCV.out)).a2
            have b0 := (HBB.out.fr (HCW.out.tr HCV.out)).a0
            have b2 := (HBB.out.fr (HCW.out.tr HCV.out)).a2
            have hia := HP2.out
            have hib := HP4.out
            obtain ⟨xa, oa, cxa, ea1, hx⟩ := (HBA.out.fr (HCW.out.tr HCV.out)).ls.2.at hia
            injection ea1 with ea1 ea2 ea3
            subst ea1
            clear ea2 ea3
            obtain ⟨xb, ob, cxb, eb1, hy⟩ := (HBB.out.fr (HCW.out.tr HCV.out)).ls.2.at hib
            injection eb1 with eb1 eb2 eb3
            subst eb1
            clear eb2 eb3
            have hgx : A.e.getD 0 0 = A.e[0] := by simp [List.getD, List.getElem?_eq_getElem hia]
            have hgy : B.e.getD 0 0 = B.e[0] := by simp [List.getD, List.getElem?_eq_getElem hib]
            have hmx := fun w' => r12mixed_any g A.k B.k A.e[0] B.e[0] (HIN.out.1 _ (List.getElem_mem hia)) (HIN.out.2 _ (List.getElem_mem hib)) w'
            rw [show mxP g A.k B.k A.e[0] B.e[0] = qk from by unfold mxP; rw [if_pos HKN.out, ← hgx, ← hgy]; exact HQK.out.symm] at hmx
            unfold GaveP at hmx
            have q0 : (0 : Int) ≤ ((0 : Nat) : Int) := Int.natCast_nonneg _
            have q1 : ((0 : Nat) : Int) < (A.e.length : Int) := by omega
            have q2 : (0 : Nat) < A.e.length := hia
            have r0 : (0 : Int) ≤ ((0 : Nat) : Int) := Int.natCast_nonneg _
            have r1 : ((0 : Nat) : Int) < (B.e.length : Int) := by omega
            have r2 : (0 : Nat) < B.e.length := hib
            generalize A.e[0] = x at *
            generalize B.e[0] = y at *
            rw [Nat.add_zero] at hx
            rw [Nat.add_zero] at hy
            have HMX := Lib.hid hmx
            have KR := Lib.hid (show ∀ w', Chg (fun _ => False) wr w' → (Chg (fun _ => False) wr w' ∧ w'.cell? ⟨w.heap.size, 0, none⟩ = some (.int .i64 A.k) ∧ w'.cell? ⟨w.heap.size, 2, none⟩ = some (.slice (some ⟨xa, oa, none⟩) A.e.length ce) ∧ w'.cell? ⟨w.heap.size + 1, 0, none⟩ = some (.int .i64 B.k) ∧ w'.cell? ⟨w.heap.size + 1, 2, none⟩ = some (.slice (some ⟨xb, ob, none⟩) B.e.length cf) ∧ w'.cell? ⟨xa, oa, none⟩ = some (.int .i64 x) ∧ w'.cell? ⟨xb, ob, none⟩ = some (.int .i64 y)) from fun w' h => ⟨h, h.cell a0 id, h.cell a2 id, h.cell b0 id, h.cell b2 id, h.cell hx id, h.cell hy id⟩)
            clear hmx hgx hgy hia hib
            go_upto_region 23 with (fail)
            go_region_held3 (fun w' => Chg (fun _ => False) wr w' ∧ w'.cell? ⟨w.heap.size, 0, none⟩ = some (.int .i64 A.k) ∧ w'.cell? ⟨w.heap.size, 2, none⟩ = some (.slice (some ⟨xa, oa, none⟩) A.e.length ce) ∧ w'.cell? ⟨w.heap.size + 1, 0, none⟩ = some (.int .i64 B.k) ∧ w'.cell? ⟨w.heap.size + 1, 2, none⟩ = some (.slice (some ⟨xb, ob, none⟩) B.e.length cf) ∧ w'.cell? ⟨xa, oa, none⟩ = some (.int .i64 x) ∧ w'.cell? ⟨xb, ob, none⟩ = some (.int .i64 y))
              (first | exact KR.out _ ((Chg.refl _ _).drew) | exact KR.out _ hf1)
              (first
              | (go_at_call 74; (with_reducible refine (HMX.out _).mono ?_); rintro e9 wm ⟨rfl, hCm⟩; (have hf1 := ((Chg.refl (fun _ => False) wr).drew).tr hCm)))
            all_goals
              rename_i hHd
              clear hHd
              have HCf := Lib.hid (HCr.out.tr (HCV.out.tr hf1))
              have HOQ2 := Lib.hid (HOQ.out.fr (HCV.out.tr hf1))
              have HSZ3 := Lib.hid (show gc ≤ wm.heap.size from Nat.le_trans HGC2.out HCf.out.size)
              have HCT := Lib.hid (HCA.out.tr HCf.out)
              clear hCm hf1 KR hx hy a0 a2 b0 b2 HMX HCV
              by_cases hq : qk.2 = 0
              · rw [hq] at HS1Q
                have hq0 : (qk.2 != 0) = false := bne_f hq
                clear HALLQ
                go_wp2_with (refine wpList_append_own_any (by rfl) (.tmp 126) (.tmp 128) 23 (by rfl) gc 2 i0 (.int .i64 0) 1 8 Try.underlying23 hi hz0 hz1 hz2 rfl (by decide) (.slice aq Lq cq) prq.length (prq.map I) (by rfl) (World.ownsRow.alloc HOQ2.out _) (some ⟨wm.heap.size, 0, none⟩) 1 1 [.int .i64 qk.1] (by rfl) rfl (fun j u hu => ⟨_, rfl, cell_one_new wm _ _ j u hu⟩) (by simp [Value.oneCell']) HPLQ.out.1 HPLQ.out.2 (by rw [World.size_alloc]; exact Nat.le_succ_of_le HSZ3.out) ?_; intro v4 w4 hown4 hg4 _ hO4; have hC4 : Chg (fun _ => False) wa w4 := ((HCf.out.alloc _).grown hg4 (fun k e => .inr (by have := (HOQ2.out.lt k e).1; have := HGC.out; omega))); have O4 := Lib.hid (own_put1 hown4 rfl); obtain ⟨al4, L4, cl4, rfl, hL4⟩ := own_nm O4.out)
                go_roundw
                case rel => exact ⟨k + 1, HKL.out, by go_num, HS1Q.out, by rw [HVQ.out]; exact O4.out, hC4⟩
                case measure => exact fit_meas k L HKL.out
              · have hqn : (qk.2 != 0) = true := bne_t hq
                have hfe : fstE (tabP L qj) = qk.2 := (HALLQ.out (by rw [HS1Q.out]; exact hq)).trans HS1Q.out
                have hqe : q.2 = qk.2 := by rw [HELJ.out, hfe, if_neg hq]
                have HQE := Lib.hid (show mdE N el = qk.2 from ((HALL.out (by rw [HS1.out, hqe]; exact hq)).trans HS1.out).trans hqe)
                have HQ0 := Lib.hid hq
                clear hq HALLQ hfe hqe
                obtain ⟨z0, z1, z2, f0, f1, f2⟩ := HB0.out.fr HCT.out
                obtain ⟨⟨g0, g1⟩, g2⟩ := set3_cells (.int .i64 0) (.slice none 0 0) (.slice none 0 0) z0 z1 z2
                go_wp2
                simp [bodyPost, results, Try.results38, go_sem, g0, g1, g2]
                rw [HRA.out, HRE.out, HQE.out, if_neg HQ0.out]
                exact leaveNo (Nat.le_add_right _ 2) (HC.out.tr HCT.out)
          · have _u := True.intro
            clear _u
            have e1 : decide (0 < nB) = true := decide_eq_true hb
            have e2 : decide ((0 : Int) < (nB : Int)) = true := decide_eq_true (by omega)
            have HNB := Lib.hid (show B.s ≠ [] from fun e => by have := HN.out.2; rw [e] at this; simp at this; omega)
            clear hb
            have b1 := (HBB.out.fr (HCW.out.tr (Chg.refl (fun _ => False) wr))).a1
            rw [HN.out.2] at b1
            obtain ⟨ab, cb, hlb, hrunb⟩ := icut_low HATR.out 0 (by rw [List.length_append, HXL.out]; exact Nat.le_add_right _ _)
            rw [List.drop_left' HXL.out] at hlb
            replace hrunb : ∀ W, (Instr.slice 22 (.slice aa la ca) (some (.int .i64 0)) none none).run Try.prog W = .ok (.slice ab ((xs ++ ys).length - 0) cb) W := hrunb
            obtain ⟨ny, hny⟩ : ∃ n, (xs ++ ys).length - 0 = n := ⟨_, rfl⟩
            rw [hny] at hlb hrunb
            have HNY := Lib.hid (show ny = ys.length from by rw [← hny, List.length_append, HXL.out]; omega)
            have HYL := Lib.hid (show 1 + ny ≤ maxLen ∧ (1 + ny) * 8 ≤ 140737488355328 from by
              have h9 := HATL.out
              rw [List.length_append] at h9
              have := HNY.out
              rw [Nat.add_comm 1 ny]
              exact app_ok (by omega))
            have HLB := Lib.hid (show ∀ w', Chg (fun _ => False) wr w' → Ls w' (.slice ab ny cb) ys from fun w' h => hlb.fr h)
            have HPL2 := Lib.hid (show ∀ w' v', Chg (fun _ => False) wr w' → Ls w' v' ((k : Int) :: ys) → Calls Try.prog 76 #[.slice ta nB ct, v'] w' (fun e w2 => e = .returned (.tuple #[.int .i64 (ib : Int), .bool (plB B.s ((k : Int) :: ys))]) ∧ Chg (fun _ => False) w' w2) from fun w' v' h h2 => by
              have h3 := (HBB.out.fr (HCW.out.tr h)).ls.1
              rw [HN.out.2] at h3
              have h4 := r11place_any _ _ _ _ w' h3 h2
              unfold GavePl GaveIB at h4
              rw [HP3.out (HNB.out)] at h4
              exact h4)
            have KQ := Lib.hid (show ∀ w', Chg (fun _ => False) wr w' → (Chg (fun _ => False) wr w' ∧ w'.cell? ⟨w.heap.size + 1, 1, none⟩ = some (.slice ta nB ct)) from fun w' h => ⟨h, h.cell b1 id⟩)
            have HCB := Lib.hid (Chg.refl (fun _ => False) wr)
            clear hlb hny
            go_upto_region 22 with (fail)
            go_region_held3 (fun w' => Chg (fun _ => False) wr w' ∧ w'.cell? ⟨w.heap.size + 1, 1, none⟩ = some (.slice ta nB ct))
              (first | exact KQ.out _ ((Chg.refl _ _).drew) | exact KQ.out _ (((Chg.refl _ _).drew).alloc _) | exact KQ.out _ hd6 | exact KQ.out _ hd7)
              (first
              | (refine step_append_own (by rfl) (.tmp 95) (.tmp 98) 22 (by rfl) (World.heap (wr)).size 3 j0 (.int .i64 0) 1 8 Try.underlying22 hj0 hy0 hy1 hy2 rfl (by decide) (.slice (some ⟨(World.heap (wr)).size, 0, none⟩) 1 1) 1 [.int .i64 (k : Int)] (by simp [Act.eval]) (own_lit (World.drew (wr)) 3 [(k : Int)] 1 rfl _ rfl (by simp)) ab ny cb (ys.map I) (by simp [Act.eval]) (by rw [List.length_map, Nat.mul_one]; exact HNY.out.symm) (HLB.out _ (HCB.out.tr (((Chg.refl _ _).drew).alloc _))).src (I_one ys) HYL.out.1 HYL.out.2 (le_all1 (Nat.le_refl _) _) ?_; intro v8 w8 hown8 hg8 _ hO8; (have hd6 : Chg (fun _ => False) wr w8 := (((Chg.refl _ _).drew).alloc _).grown hg8 (fun q e => .inr (by cases e; exact Nat.le_refl _))); (have ho9 : Own w8 (World.heap (wr)).size 3 v8 ((k : Int) :: ys) := own_cons1 hown8 HNY.out); (obtain ⟨a8, l8, c8, rfl, _⟩ := own_nm ho9))
              | (go_at_call 76; (with_reducible refine (HPL2.out _ _ (HCB.out.tr hd6) ho9.ls).mono ?_); rintro e9 w9 ⟨rfl, hC9⟩; (have hd7 := hd6.tr hC9)))
            all_goals
              rename_i hHd
              clear hHd
              have HCV := Lib.hid (HCB.out.tr hd7)
              have a0 := (HBA.out.fr (HCW.out.tr HCV.out)).a0
              have a2 := (HBA.out.fr (HCW.out.tr HCV.out)).a2
              have b0 := (HBB.out.fr (HCW.out.tr HCV.out)).a0
              have b2 := (HBB.out.fr (HCW.out.tr HCV.out)).a2
              have hia := HP2.out
              have hib := HP4.out
              obtain ⟨xa, oa, cxa, ea1, hx⟩ := (HBA.out.fr (HCW.out.tr HCV.out)).ls.2.at hia
              injection ea1 with ea1 ea2 ea3
              subst ea1
              clear ea2 ea3
              obtain ⟨xb, ob, cxb, eb1, hy⟩ := (HBB.out.fr (HCW.out.tr HCV.out)).ls.2.at hib
              injection eb1 with eb1 eb2 eb3
              subst eb1
              clear eb2 eb3
              have hgx : A.e.getD 0 0 = A.e[0] := by simp [List.getD, List.getElem?_eq_getElem hia]
              have hgy : B.e.getD ib 0 = B.e[ib] := by simp [List.getD, List.getElem?_eq_getElem hib]
              have hmx := fun w' => r12mixed_any g A.k B.k A.e[0] B.e[ib] (HIN.out.1 _ (List.getElem_mem hia)) (HIN.out.2 _ (List.getElem_mem hib)) w'
              rw [show mxP g A.k B.k A.e[0] B.e[ib] = qk from by unfold mxP; rw [if_pos HKN.out, ← hgx, ← hgy]; exact HQK.out.symm] at hmx
              unfold GaveP at hmx
              have q0 : (0 : Int) ≤ ((0 : Nat) : Int) := Int.natCast_nonneg _
              have q1 : ((0 : Nat) : Int) < (A.e.length : Int) := by omega
              have q2 : (0 : Nat) < A.e.length := hia
              have r0 : (0 : Int) ≤ ((ib : Nat) : Int) := Int.natCast_nonneg _
              have r1 : ((ib : Nat) : Int) < (B.e.length : Int) := by omega
              have r2 : (ib : Nat) < B.e.length := hib
              generalize A.e[0] = x at *
              generalize B.e[ib] = y at *
              rw [Nat.add_zero] at hx
              have HMX := Lib.hid hmx
              have KR := Lib.hid (show ∀ w', Chg (fun _ => False) w9 w' → (Chg (fun _ => False) w9 w' ∧ w'.cell? ⟨w.heap.size, 0, none⟩ = some (.int .i64 A.k) ∧ w'.cell? ⟨w.heap.size, 2, none⟩ = some (.slice (some ⟨xa, oa, none⟩) A.e.length ce) ∧ w'.cell? ⟨w.heap.size + 1, 0, none⟩ = some (.int .i64 B.k) ∧ w'.cell? ⟨w.heap.size + 1, 2, none⟩ = some (.slice (some ⟨xb, ob, none⟩) B.e.length cf) ∧ w'.cell? ⟨xa, oa, none⟩ = some (.int .i64 x) ∧ w'.cell? ⟨xb, ob + ib, none⟩ = some (.int .i64 y)) from fun w' h => ⟨h, h.cell a0 id, h.cell a2 id, h.cell b0 id, h.cell b2 id, h.cell hx id, h.cell hy id⟩)
              clear hmx hgx hgy hia hib
              go_upto_region 23 with (fail)
              go_region_held3 (fun w' => Chg (fun _ => False) w9 w' ∧ w'.cell? ⟨w.heap.size, 0, none⟩ = some (.int .i64 A.k) ∧ w'.cell? ⟨w.heap.size, 2, none⟩ = some (.slice (some ⟨xa, oa, none⟩) A.e.length ce) ∧ w'.cell? ⟨w.heap.size + 1, 0, none⟩ = some (.int .i64 B.k) ∧ w'.cell? ⟨w.heap.size + 1, 2, none⟩ = some (.slice (some ⟨xb, ob, none⟩) B.e.length cf) ∧ w'.cell? ⟨xa, oa, none⟩ = some (.int .i64 x) ∧ w'.cell? ⟨xb, ob + ib, none⟩ = some (.int .i64 y))
                (first | exact KR.out _ ((Chg.refl _ _).drew) | exact KR.out _ hf1)
                (first
                | (go_at_call 74; (with_reducible refine (HMX.out _).mono ?_); rintro e9 wm ⟨rfl, hCm⟩; (have hf1 := ((Chg.refl (fun _ => False) w9).drew).tr hCm)))
              all_goals
                rename_i hHd
                clear hHd
                have HCf := Lib.hid (HCr.out.tr (HCV.out.tr hf1))
                have HOQ2 := Lib.hid (HOQ.out.fr (HCV.out.tr hf1))
                have HSZ3 := Lib.hid (show gc ≤ wm.heap.size from Nat.le_trans HGC2.out HCf.out.size)
                have HCT := Lib.hid (HCA.out.tr HCf.out)
                clear hCm hf1 KR hx hy a0 a2 b0 b2 HMX HCV
                by_cases hq : qk.2 = 0
                · rw [hq] at HS1Q
                  have hq0 : (qk.2 != 0) = false := bne_f hq
                  clear HALLQ
                  go_wp2_with (refine wpList_append_own_any (by rfl) (.tmp 126) (.tmp 128) 23 (by rfl) gc 2 i0 (.int .i64 0) 1 8 Try.underlying23 hi hz0 hz1 hz2 rfl (by decide) (.slice aq Lq cq) prq.length (prq.map I) (by rfl) (World.ownsRow.alloc HOQ2.out _) (some ⟨wm.heap.size, 0, none⟩) 1 1 [.int .i64 qk.1] (by rfl) rfl (fun j u hu => ⟨_, rfl, cell_one_new wm _ _ j u hu⟩) (by simp [Value.oneCell']) HPLQ.out.1 HPLQ.out.2 (by rw [World.size_alloc]; exact Nat.le_succ_of_le HSZ3.out) ?_; intro v4 w4 hown4 hg4 _ hO4; have hC4 : Chg (fun _ => False) wa w4 := ((HCf.out.alloc _).grown hg4 (fun k e => .inr (by have := (HOQ2.out.lt k e).1; have := HGC.out; omega))); have O4 := Lib.hid (own_put1 hown4 rfl); obtain ⟨al4, L4, cl4, rfl, hL4⟩ := own_nm O4.out)
                  go_roundw
                  case rel => exact ⟨k + 1, HKL.out, by go_num, HS1Q.out, by rw [HVQ.out]; exact O4.out, hC4⟩
                  case measure => exact fit_meas k L HKL.out
                · have hqn : (qk.2 != 0) = true := bne_t hq
                  have hfe : fstE (tabP L qj) = qk.2 := (HALLQ.out (by rw [HS1Q.out]; exact hq)).trans HS1Q.out
                  have hqe : q.2 = qk.2 := by rw [HELJ.out, hfe, if_neg hq]
                  have HQE := Lib.hid (show mdE N el = qk.2 from ((HALL.out (by rw [HS1.out, hqe]; exact hq)).trans HS1.out).trans hqe)
                  have HQ0 := Lib.hid hq
                  clear hq HALLQ hfe hqe
                  obtain ⟨z0, z1, z2, f0, f1, f2⟩ := HB0.out.fr HCT.out
                  obtain ⟨⟨g0, g1⟩, g2⟩ := set3_cells (.int .i64 0) (.slice none 0 0) (.slice none 0 0) z0 z1 z2
                  go_wp2
                  simp [bodyPost, results, Try.results38, go_sem, g0, g1, g2]
                  rw [HRA.out, HRE.out, HQE.out, if_neg HQ0.out]
                  exact leaveNo (Nat.le_add_right _ 2) (HC.out.tr HCT.out)
        · obtain rfl : k = L := by omega
          have d1 : decide ((k : Int) < (k : Int)) = false := decide_eq_false (by omega)
          have d2 : decide (k < k) = false := decide_eq_false (by omega)
          have hrow := r16row_any f _ (tabV k qj) wr hown.ls (by rw [tabV_length]; have := HB4.out; omega) (fun x hx => by
            unfold tabV tabP at hx
            simp only [List.map_map, List.mem_map] at hx
            obtain ⟨i, _, rfl⟩ := hx
            exact HQI2.out i)
          unfold GaveP at hrow
          have hq9 := HELJ.out
          rw [if_pos hok] at hq9
          rw [← hq9] at hrow
          obtain ⟨aq, Lq, cq, rfl, hLq⟩ := own_nm hown
          have HCr := Lib.hid hC
          clear hkl hk hok hown hC hLq hq9
          go_wp2_with fail
          refine hrow.mono ?_
          clear hrow
          rintro e9 w7 ⟨rfl, hC7⟩
          have HCr2 := Lib.hid ((HCA.out.tr HCr.out).tr hC7)
          have HO2 := Lib.hid (HO.out.fr (HCr.out.tr hC7))
          have HSZ3 := Lib.hid (show gb ≤ w7.heap.size from Nat.le_trans HGB2.out HCr2.out.size)
          clear hC7
          by_cases hq : q.2 = 0
          · rw [hq] at HS1
            have hq0 : (q.2 != 0) = false := bne_f hq
            go_wp2_with (refine wpList_append_own_any (by rfl) (.tmp 140) (.tmp 142) 23 (by rfl) gb 2 i0 (.int .i64 0) 1 8 Try.underlying23 hi hz0 hz1 hz2 rfl (by decide) (.slice al Ll cl) pre.length (pre.map I) (by rfl) (World.ownsRow.alloc HO2.out _) (some ⟨w7.heap.size, 0, none⟩) 1 1 [.int .i64 q.1] (by rfl) rfl (fun j u hu => ⟨_, rfl, cell_one_new w7 _ _ j u hu⟩) (by simp [Value.oneCell']) HPL.out.1 HPL.out.2 (by rw [World.size_alloc]; exact Nat.le_succ_of_le HSZ3.out) ?_; intro v8 w8 hown8 hg8 _ hO8; have hC8 : Chg (fun _ => False) w2 w8 := ((HCr2.out.alloc _).grown hg8 (fun k e => .inr (by have := (HO2.out.lt k e).1; have := HGB.out; omega))); have O8 := Lib.hid (own_put1 hown8 rfl); obtain ⟨al8, L8, cl8, rfl, hL8⟩ := own_nm O8.out)
            go_roundw
            case rel => exact ⟨j + 1, HLT.out, by go_num, HS1.out, by rw [HV.out]; exact O8.out, hC8⟩
            case measure => exact fit_meas j N HLT.out
          · have hqn : (q.2 != 0) = true := bne_t hq
            have HQE := Lib.hid (show mdE N el = q.2 from (HALL.out (by rw [HS1.out]; exact hq)).trans HS1.out)
            have HQ0 := Lib.hid hq
            obtain ⟨z0, z1, z2, f0, f1, f2⟩ := HB0.out.fr HCr2.out
            obtain ⟨⟨g0, g1⟩, g2⟩ := set3_cells (.int .i64 0) (.slice none 0 0) (.slice none 0 0) z0 z1 z2
            clear hq HALL
            go_wp2
            simp [bodyPost, results, Try.results38, go_sem, g0, g1, g2]
            rw [HRA.out, HRE.out, HQE.out, if_neg HQ0.out]
            exact leaveNo (Nat.le_add_right _ 2) (HC.out.tr HCr2.out)
    · obtain rfl : j = N := by omega
      have hlt' : decide ((j : Int) < (j : Int)) = false := decide_eq_false (by omega)
      have hlt2 : decide (j < j) = false := decide_eq_false (by omega)
      have hof := r11of_any 1 _ _ S (tabV j el) wr (HLK.out.fr hC) hown.ls HSL.out (by rw [tabV_length]; have := HB4.out; omega)
      unfold GaveA OwnA at hof
      obtain ⟨al, Ll, cl, rfl, hL0⟩ := own_nm hown
      have HCr := Lib.hid hC
      have HOK := Lib.hid hok
      clear hlt hj hok hown hC hL0
      go_wp2_with fail
      refine hof.mono ?_
      clear hof
      rintro e9 w5 ⟨v5, rfl, ⟨vs5, ve5, rfl, ho1, ho2⟩, hC5⟩
      obtain ⟨a1', c1, rfl⟩ := own_name ho1
      obtain ⟨a2', c2, rfl⟩ := own_name ho2
      have HLT := Lib.hid (Nat.lt_of_lt_of_le HRB.out (show gb ≤ wr.heap.size from Nat.le_trans HGB2.out HCr.out.size))
      have HO1 := Lib.hid ho1
      have HO2 := Lib.hid ho2
      obtain ⟨z0, z1, z2, f0, f1, f2⟩ := HB0.out.fr (HCr.out.tr hC5)
      obtain ⟨⟨g0, g1⟩, g2⟩ := set3_cells (.int .i64 1) (.slice a1' S.length c1) (.slice a2' (tabV j el).length c2) z0 z1 z2
      have HC5 := Lib.hid (HC.out.tr (HCr.out.tr hC5))
      clear hC5 ho1 ho2
      go_wp2
      simp [bodyPost, results, Try.results38, go_sem, g0, g1, g2]
      rw [HRA.out, HRE.out, show mdE j el = 0 from HOK.out, if_pos rfl]
      exact leaveAE HO1.out HO2.out (Nat.le_add_right _ 2) HLT.out HLT.out HC5.out
end Go.Proofs.Ytjmlekdgipinfaa
