/- The document's fold: the outer product. -/
import Derived.Test.YtjmlekdgipinfaaMp41
import Derived.Test.YtjmlekdgipinfaaMp42
import Derived.Deep.RegionHeld3
namespace Go.Proofs.Ytjmlekdgipinfaa
open Go.RowKit Go.Shelf

theorem ou_at (p : Int → Int → Int × Int) (xs ys : List Int) (i k : Nat) (hi : i < xs.length) (hk : k < ys.length) : ouP p xs ys (i * ys.length + k) = p xs[i] ys[k] := by
  unfold ouP
  rw [show (i * ys.length + k) / ys.length = i by rw [Nat.mul_comm, Nat.mul_add_div (by omega), Nat.div_eq_of_lt hk]; rfl, show (i * ys.length + k) % ys.length = k by rw [Nat.mul_comm, Nat.mul_add_mod, Nat.mod_eq_of_lt hk]]
  simp [hi, hk]
set_option maxRecDepth 100000 in
set_option maxHeartbeats 2000000 in
theorem r16outer_any (f : Int) (u v : Value) (A B : Ar) (w : World) (hA : Ara w u A) (hB : Ara w v B) (hl1 : A.e.length ≤ 1000000) (hl2 : B.e.length ≤ 1000000) (hI1 : ∀ x ∈ A.e, In x) (hI2 : ∀ x ∈ B.e, In x) : Calls Try.prog 37 #[.int .i64 f, u, v] w (GaveAE w (outA f A B) (outE f A B)) := by
  obtain ⟨i0, hi, hz0, hz1, hz2⟩ := info_parts info_long
  obtain ⟨vs, ve, rfl, hs, he⟩ := hA
  obtain ⟨us, ue, rfl, ht, hf⟩ := hB
  obtain ⟨sa, cs, rfl, _⟩ := hs.form
  obtain ⟨ea, ce, rfl, _⟩ := he.form
  obtain ⟨ta, ct, rfl, _⟩ := ht.form
  obtain ⟨fa, cf, rfl, _⟩ := hf.form
  have hK1 := (Chg.refl (fun _ => False) w).alloc (.cells #[.int .i64 A.k, .slice sa A.s.length cs, .slice ea A.e.length ce] 25)
  have hK2 := (Chg.refl (fun _ => False) (w.alloc (.cells #[.int .i64 A.k, .slice sa A.s.length cs, .slice ea A.e.length ce] 25))).alloc (.cells #[.int .i64 B.k, .slice ta B.s.length ct, .slice fa B.e.length cf] 25)
  have hK3 := (Chg.refl (fun _ => False) ((w.alloc (.cells #[.int .i64 A.k, .slice sa A.s.length cs, .slice ea A.e.length ce] 25)).alloc (.cells #[.int .i64 B.k, .slice ta B.s.length ct, .slice fa B.e.length cf] 25))).alloc (.cells #[.int .i64 0, .slice none 0 0, .slice none 0 0] 25)
  have hbb := (Bx1.new (A := B) 25 (ht.fr hK1) (hf.fr hK1)).fr hK3
  rw [World.size_alloc] at hbb
  have hb0 := Bx.new ((w.alloc (.cells #[.int .i64 A.k, .slice sa A.s.length cs, .slice ea A.e.length ce] 25)).alloc (.cells #[.int .i64 B.k, .slice ta B.s.length ct, .slice fa B.e.length cf] 25)) (.int .i64 0) (.slice none 0 0) (.slice none 0 0) 25
  rw [World.size_alloc, World.size_alloc] at hb0
  have HBA := Lib.hid ((Bx1.new (A := A) 25 hs he).fr (hK2.tr hK3))
  have HBB := Lib.hid hbb
  have HB0 := Lib.hid hb0
  have HC := Lib.hid ((hK1.tr hK2).tr hK3)
  clear hs he ht hf hK1 hK2 hK3 hbb hb0
  have a0 := HBA.out.a0
  have a1 := HBA.out.a1
  have a2 := HBA.out.a2
  have b0 := HBB.out.a0
  have b1 := HBB.out.a1
  have b2 := HBB.out.a2
  have hos := r16outerS_any f _ _ A B _ HBA.out.ara HBB.out.ara hl1 hl2
  unfold GaveOS at hos
  obtain ⟨E, hE⟩ : ∃ E, ouE f A B = E := ⟨_, rfl⟩
  rw [hE] at hos
  by_cases hz : E = 0
  · subst hz
    obtain ⟨hk1, hk2, hk3⟩ := ou_zero hE
    have hch := ck_zero hk1
    have hpr : prodL (A.s ++ B.s) = ((A.e.length * B.e.length : Nat) : Int) := by rw [prodL_append, (chkB_iff.1 hch.1).2.1, (chkB_iff.1 hch.2).2.1]; exact (Int.natCast_mul _ _).symm
    have hN4 : A.e.length * B.e.length ≤ 4096 := by have := (shB_iff.1 hk3).2.2; omega
    obtain ⟨el, hel⟩ : ∃ el, ouP (mixP f A.k B.k) A.e B.e = el := ⟨_, rfl⟩
    obtain ⟨sh, hsh⟩ : ∃ sh, A.s ++ B.s = sh := ⟨_, rfl⟩
    have HRE := Lib.hid (show outE f A B = mdE (A.e.length * B.e.length) el by unfold outE; rw [if_pos hE, hel])
    have HRA := Lib.hid (show outA f A B = if outE f A B = 0 then ⟨1, sh, tabV (A.e.length * B.e.length) el⟩ else noA by unfold outA; rw [hel, hsh])
    have HSL := Lib.hid (show sh.length ≤ 1000000 by have := (shB_iff.1 hk3).1; rw [← hsh]; omega)
    rw [hsh] at hos
    have HN4 := Lib.hid hN4
    have HN1 := Lib.hid (show A.e.length ≤ 4096 ∧ B.e.length ≤ 4096 by
      have q1 := (chkB_iff.1 hch.1)
      have q2 := (chkB_iff.1 hch.2)
      have r1 := (shB_iff.1 q1.1).2.2
      have r2 := (shB_iff.1 q2.1).2.2
      omega)
    have HIN := Lib.hid (And.intro hI1 hI2)
    have HEL := Lib.hid (show ∀ i k, ∀ (hi : i < A.e.length) (hk : k < B.e.length), el (i * B.e.length + k) = mixP f A.k B.k A.e[i] B.e[k] from fun i k h1 h2 => by rw [← hel]; exact ou_at _ _ _ i k h1 h2)
    have HKN := Lib.hid hk2
    clear hE hk1 hk2 hk3 hch hpr hN4 hel hsh hI1 hI2 hl1 hl2
    go_enter Try.func37, Try.ntmps37
    go_wp2_with fail
    refine hos.mono ?_
    clear hos
    rintro e9 wb ⟨vh, rfl, hC1, ho, _⟩
    have ho2 := ho (by first | rfl | trivial)
    obtain ⟨ah, ch, rfl⟩ := own_name ho2
    have HLK := Lib.hid ho2.ls
    clear a0 a1 a2 b0 b1 b2
    replace HBA := Lib.hid (HBA.out.fr hC1)
    replace HBB := Lib.hid (HBB.out.fr hC1)
    replace HB0 := Lib.hid (HB0.out.fr hC1)
    replace HC := Lib.hid (HC.out.tr hC1)
    have a0 := HBA.out.a0
    have a1 := HBA.out.a1
    have a2 := HBA.out.a2
    have b0 := HBB.out.a0
    have b1 := HBB.out.a1
    have b2 := HBB.out.a2
    obtain ⟨gb, hgb⟩ : ∃ gb, wb.heap.size = gb := ⟨_, rfl⟩
    have HRB := Lib.hid (show w.heap.size + 1 + 1 < gb from hgb ▸ HB0.out.lt)
    have HGB := Lib.hid (show wb.heap.size ≤ gb from hgb ▸ Nat.le_refl _)
    have HGB2 := Lib.hid (show gb ≤ wb.heap.size from hgb ▸ Nat.le_refl _)
    clear hC1 hgb ho ho2
    obtain ⟨na, hna⟩ : ∃ n, A.e.length = n := ⟨_, rfl⟩
    obtain ⟨nb, hnb⟩ : ∃ n, B.e.length = n := ⟨_, rfl⟩
    have HNA := Lib.hid hna
    have HNB := Lib.hid hnb
    have HEL2 := Lib.hid (show ∀ i k, ∀ (hi : i < A.e.length) (hk : k < B.e.length), el (i * nb + k) = mixP f A.k B.k A.e[i] B.e[k] from fun i k h1 h2 => by rw [← hnb]; exact HEL.out i k h1 h2)
    rw [hna, hnb] at HN4 HN1
    rw [hna, hnb] at HRE
    rw [hna, hnb] at HRA
    rw [hna] at a2
    rw [hnb] at b2
    clear hna hnb
    go_wp2
    clear a0 a1 a2 b0 b1 b2
    go_loopw [10, 11] (fun tv i wr => ∃ j : Nat, j ≤ na ∧ i = .int .i64 j ∧ fstE (tabP (j * nb) el) = 0 ∧ Own wr gb 2 tv (tabV (j * nb) el) ∧ Chg (fun _ => False) wb wr) (fun _ i _ => na - (intOf i).toNat)
    case atStart => exact ⟨0, Nat.zero_le _, rfl, by rw [Nat.zero_mul]; rfl, by rw [Nat.zero_mul]; exact Own.nil _ _ _, Chg.refl _ _⟩
    case round =>
      obtain ⟨j, hj, rfl, hok, hown, hC⟩ := hrel
      have a2 := (HBA.out.fr hC).a2
      rw [HNA.out] at a2
      by_cases hlt : j < na
      · have hlt' : decide ((j : Int) < (na : Int)) = true := decide_eq_true (by omega)
        have hlt2 : decide (j < na) = true := decide_eq_true hlt
        have hkw : IntKind.i64.wrap ((j : Int) + 1) = (j : Int) + 1 := IntWalk.i64_in _ (by have := HN1.out; omega)
        have HEJ := Lib.hid (HEL2.out j)
        have m2 : (j + 1) * nb = j * nb + nb := by rw [Nat.add_mul]; omega
        have hfit : (j + 1) * nb ≤ na * nb := Nat.mul_le_mul_right _ hlt
        rw [m2] at hfit
        obtain ⟨lo, hlo⟩ : ∃ lo, j * nb = lo := ⟨_, rfl⟩
        rw [hlo] at m2 hok hown HEJ hfit
        have HFIT := Lib.hid hfit
        have HM2 := Lib.hid m2
        have HLT := Lib.hid hlt
        have HOK := Lib.hid hok
        have HOW := Lib.hid hown
        have HCX := Lib.hid hC
        obtain ⟨al, Ll, cl, rfl, hLn⟩ := own_nm hown
        clear m2 hlo hfit hok hown hC hlt hj hLn
        go_wp2
        clear a2
        go_loopw [10, 12] (fun tv i wz => ∃ k : Nat, k ≤ nb ∧ i = .int .i64 k ∧ fstE (tabP (lo + k) el) = 0 ∧ Own wz gb 2 tv (tabV (lo + k) el) ∧ Chg (fun _ => False) wb wz) (fun _ i _ => nb - (intOf i).toNat)
        case atStart => exact ⟨0, Nat.zero_le _, rfl, HOK.out, HOW.out, HCX.out⟩
        case round =>
          obtain ⟨k, hk, rfl, hok, hown, hC⟩ := hrel
          have a0 := (HBA.out.fr hC).a0
          have a2 := (HBA.out.fr hC).a2
          have b0 := (HBB.out.fr hC).a0
          have b2 := (HBB.out.fr hC).a2
          by_cases hkl : k < nb
          · have d1 : decide ((k : Int) < (nb : Int)) = true := decide_eq_true (by omega)
            have d2 : decide (k < nb) = true := decide_eq_true hkl
            have hn1 := HN1.out
            have hja : j < A.e.length := by rw [HNA.out]; exact HLT.out
            have hkb : k < B.e.length := by rw [HNB.out]; exact hkl
            obtain ⟨xa, oa, cxa, ea1, hx⟩ := (HBA.out.fr hC).ls.2.at hja
            injection ea1 with ea1 ea2 ea3
            subst ea1
            clear ea2 ea3
            obtain ⟨xb, ob, cxb, eb1, hy⟩ := (HBB.out.fr hC).ls.2.at hkb
            injection eb1 with eb1 eb2 eb3
            subst eb1
            clear eb2 eb3
            have hmx := fun w' => r12mixed_any f A.k B.k A.e[j] B.e[k] (HIN.out.1 _ (List.getElem_mem hja)) (HIN.out.2 _ (List.getElem_mem hkb)) w'
            rw [show mxP f A.k B.k A.e[j] B.e[k] = el (lo + k) from by unfold mxP; rw [if_pos HKN.out]; exact (HEJ.out k hja hkb).symm] at hmx
            unfold GaveP at hmx
            generalize A.e[j] = x at *
            generalize B.e[k] = y at *
            rw [HNA.out] at a2
            rw [HNB.out] at b2
            have HMX := Lib.hid hmx
            have k3 : IntKind.i64.wrap ((k : Int) + 1) = (k : Int) + 1 := IntWalk.i64_in _ (by omega)
            have hs1 := fstE_succ hok
            have hv1 := tabV_succ (lo + k) el
            have HALL := Lib.hid (fun h => fstE_all (n := na * nb) (k := lo + k + 1) (el := el) (by have := HFIT.out; omega) h)
            have hpl : (tabV (lo + k) el).length ≤ 1000000 := by rw [tabV_length]; have := HFIT.out; have := HN4.out; omega
            have q0 : (0 : Int) ≤ (j : Int) := by omega
            have q1 : (j : Int) < (na : Int) := by have := HLT.out; omega
            have r0 : (0 : Int) ≤ (k : Int) := by omega
            have r1 : (k : Int) < (nb : Int) := by omega
            generalize tabV (lo + k) el = pre at *
            generalize el (lo + k) = q at *
            have HV := Lib.hid hv1
            have HS1 := Lib.hid hs1
            have HKL := Lib.hid hkl
            obtain ⟨al, Ll, cl, rfl, hL0⟩ := own_nm hown
            have HO := Lib.hid hown
            have HPL := Lib.hid (app_ok hpl)
            have HCr0 := Lib.hid hC
            have KP := Lib.hid (show ∀ w', Chg (fun _ => False) wr w' → (Chg (fun _ => False) wr w' ∧ w'.cell? ⟨w.heap.size, 0, none⟩ = some (.int .i64 A.k) ∧ w'.cell? ⟨w.heap.size, 2, none⟩ = some (.slice (some ⟨xa, oa, none⟩) na ce) ∧ w'.cell? ⟨w.heap.size + 1, 0, none⟩ = some (.int .i64 B.k) ∧ w'.cell? ⟨w.heap.size + 1, 2, none⟩ = some (.slice (some ⟨xb, ob, none⟩) nb cf) ∧ w'.cell? ⟨xa, oa + j, none⟩ = some (.int .i64 x) ∧ w'.cell? ⟨xb, ob + k, none⟩ = some (.int .i64 y)) from fun w' h => ⟨h, h.cell a0 id, h.cell a2 id, h.cell b0 id, h.cell b2 id, h.cell hx id, h.cell hy id⟩)
            clear hn1 hok hown hC hs1 hv1 hkl hk hpl hL0 hja hkb hmx
            go_upto_region 11 with (fail)
            clear a0 b0 
            go_region_held3 (fun w' => Chg (fun _ => False) wr w' ∧ w'.cell? ⟨w.heap.size, 0, none⟩ = some (.int .i64 A.k) ∧ w'.cell? ⟨w.heap.size, 2, none⟩ = some (.slice (some ⟨xa, oa, none⟩) na ce) ∧ w'.cell? ⟨w.heap.size + 1, 0, none⟩ = some (.int .i64 B.k) ∧ w'.cell? ⟨w.heap.size + 1, 2, none⟩ = some (.slice (some ⟨xb, ob, none⟩) nb cf) ∧ w'.cell? ⟨xa, oa + j, none⟩ = some (.int .i64 x) ∧ w'.cell? ⟨xb, ob + k, none⟩ = some (.int .i64 y))
              (first | exact KP.out _ ((Chg.refl _ _).drew) | exact KP.out _ hc1)
              (first
              | (go_at_call 74; (with_reducible refine (HMX.out _).mono ?_); rintro e9 w3 ⟨rfl, hC3⟩; (have hc1 := ((Chg.refl (fun _ => False) wr).drew).tr hC3)))
            all_goals
              rename_i hHd
              clear hHd
              have HCr := Lib.hid (HCr0.out.tr hc1)
              replace HO := Lib.hid (HO.out.fr hc1)
              have HSZ3 := Lib.hid (show gb ≤ w3.heap.size from Nat.le_trans HGB2.out HCr.out.size)
              clear hC3 hc1 KP hx hy a2 b2 HMX
              by_cases hq : q.2 = 0
              · rw [hq] at HS1
                have hq0 : (q.2 != 0) = false := bne_f hq
                clear HALL
                go_wp2_with (refine wpList_append_own_any (by rfl) (.tmp 63) (.tmp 65) 23 (by rfl) gb 2 i0 (.int .i64 0) 1 8 Try.underlying23 hi hz0 hz1 hz2 rfl (by decide) (.slice al Ll cl) pre.length (pre.map I) (by rfl) (World.ownsRow.alloc HO.out _) (some ⟨w3.heap.size, 0, none⟩) 1 1 [.int .i64 q.1] (by rfl) rfl (fun j u hu => ⟨_, rfl, cell_one_new w3 _ _ j u hu⟩) (by simp [Value.oneCell']) HPL.out.1 HPL.out.2 (by rw [World.size_alloc]; exact Nat.le_succ_of_le HSZ3.out) ?_; intro v4 w4 hown4 hg4 _ hO4; have hC4 : Chg (fun _ => False) wb w4 := ((HCr.out.alloc _).grown hg4 (fun k e => .inr (by have := (HO.out.lt k e).1; have := HGB.out; omega))); have O4 := Lib.hid (own_put1 hown4 rfl); obtain ⟨al4, L4, cl4, rfl, hL4⟩ := own_nm O4.out)
                go_roundw
                case rel => exact ⟨k + 1, HKL.out, by go_num, HS1.out, by rw [show lo + (k + 1) = lo + k + 1 from rfl, HV.out]; exact O4.out, hC4⟩
                case measure => exact fit_meas k nb HKL.out
              · have hqn : (q.2 != 0) = true := bne_t hq
                have HQ := Lib.hid (show mdE (na * nb) el = q.2 from (HALL.out (by rw [HS1.out]; exact hq)).trans HS1.out)
                have HQ0 := Lib.hid hq
                clear hq HALL
                obtain ⟨z0, z1, z2, f0, f1, f2⟩ := HB0.out.fr HCr.out
                obtain ⟨⟨g0, g1⟩, g2⟩ := set3_cells (.int .i64 0) (.slice none 0 0) (.slice none 0 0) z0 z1 z2
                go_wp2
                simp [bodyPost, results, Try.results37, go_sem, g0, g1, g2]
                rw [HRA.out, HRE.out, HQ.out, if_neg HQ0.out]
                exact leaveNo (Nat.le_add_right _ 2) (HC.out.tr HCr.out)
          · obtain rfl : k = nb := by omega
            have d1 : decide ((k : Int) < (k : Int)) = false := decide_eq_false (by omega)
            have HO := Lib.hid hown
            have HOK2 := Lib.hid hok
            have HC4 := Lib.hid hC
            rw [HNB.out] at b2
            obtain ⟨al, Ll, cl, rfl, hL0⟩ := own_nm hown
            clear hkl hk hok hown hC hL0 a0 a2 b0
            go_wp2
            go_roundw
            case rel => exact ⟨j + 1, HLT.out, by go_num, by rw [HM2.out]; exact HOK2.out, by rw [HM2.out]; exact HO.out, HC4.out⟩
            case measure => exact fit_meas j na HLT.out
      · obtain rfl : j = na := by omega
        have hlt' : decide ((j : Int) < (j : Int)) = false := decide_eq_false (by omega)
        have hof := r11of_any 1 _ _ sh (tabV (j * nb) el) wr (HLK.out.fr hC) hown.ls HSL.out (by rw [tabV_length]; have := HN4.out; omega)
        unfold GaveA OwnA at hof
        obtain ⟨al, Ll, cl, rfl, hL0⟩ := own_nm hown
        have HCr := Lib.hid hC
        have HOK := Lib.hid hok
        clear hlt hj hok hown hC hL0
        go_wp2_with fail
        refine hof.mono ?_
        clear hof
        rintro e9 w5 ⟨v5, rfl, ⟨vs5, ve5, rfl, ho1, ho2⟩, hC5⟩
        obtain ⟨a1', c1, rfl⟩ := own_name ho1
        obtain ⟨a2', c2, rfl⟩ := own_name ho2
        have HLT := Lib.hid (Nat.lt_of_lt_of_le HRB.out (show gb ≤ wr.heap.size from Nat.le_trans HGB2.out HCr.out.size))
        have HO1 := Lib.hid ho1
        have HO2 := Lib.hid ho2
        obtain ⟨z0, z1, z2, f0, f1, f2⟩ := HB0.out.fr (HCr.out.tr hC5)
        obtain ⟨⟨g0, g1⟩, g2⟩ := set3_cells (.int .i64 1) (.slice a1' sh.length c1) (.slice a2' (tabV (j * nb) el).length c2) z0 z1 z2
        have HC5 := Lib.hid (HC.out.tr (HCr.out.tr hC5))
        clear hC5 ho1 ho2 a2
        go_wp2
        simp [bodyPost, results, Try.results37, go_sem, g0, g1, g2]
        rw [HRA.out, HRE.out, show mdE (j * nb) el = 0 from HOK.out, if_pos rfl]
        exact leaveAE HO1.out HO2.out (Nat.le_add_right _ 2) HLT.out HLT.out HC5.out
  · have hoe : outE f A B = E := by unfold outE; rw [if_neg (by rw [hE]; exact hz), hE]
    have HR := Lib.hid (show outE f A B = E ∧ outA f A B = noA from ⟨hoe, by unfold outA; rw [if_neg (by rw [hoe]; exact hz)]⟩)
    clear hoe
    have hzn : (E != 0) = true := bne_t hz
    have HZ := Lib.hid hz
    clear hz hE
    go_enter Try.func37, Try.ntmps37
    go_wp2_with fail
    refine hos.mono ?_
    clear hos
    rintro e9 w1 ⟨vh, rfl, hC1, _, hno⟩
    obtain rfl := hno HZ.out
    obtain ⟨z0, z1, z2, f0, f1, f2⟩ := HB0.out.fr hC1
    obtain ⟨⟨g0, g1⟩, g2⟩ := set3_cells (.int .i64 0) (.slice none 0 0) (.slice none 0 0) z0 z1 z2
    have HC1 := Lib.hid (HC.out.tr hC1)
    clear hC1 a0 a1 a2 b0 b1 b2 hno
    go_wp2
    simp [bodyPost, results, Try.results37, go_sem, g0, g1, g2]
    rw [HR.out.1, HR.out.2]
    exact leaveNo (Nat.le_add_right _ 2) HC1.out
end Go.Proofs.Ytjmlekdgipinfaa
