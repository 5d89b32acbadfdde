/- The document's fold: reduce. -/
import Derived.Test.YtjmlekdgipinfaaMp37
namespace Go.Proofs.Ytjmlekdgipinfaa
open Go.RowKit Go.Shelf

theorem own_put1 {w2 : World} {base t : Nat} {v2 : Value} {xs : List Int} {x : Int} {n : Nat} (h2 : w2.ownsRow base t 1 v2 n (xs.map I ++ [.int .i64 x])) (hn : n = xs.length + 1) : Own w2 base t v2 (xs ++ [x]) := by
  subst hn
  unfold Own
  rw [List.length_append, List.map_append]
  exact h2
theorem app_ok {n : Nat} (h : n ≤ 1000000) : n + 1 ≤ maxLen ∧ (n + 1) * 8 ≤ 140737488355328 := by unfold maxLen; omega
set_option maxRecDepth 100000 in
set_option maxHeartbeats 400000 in
theorem r16reduce_any (f : Int) (u : Value) (A : Ar) (w : World) (hA : Ara w u A) (hl : A.e.length ≤ 1000000) (hI : ∀ x ∈ A.e, In x) : Calls Try.prog 31 #[.int .i64 f, u] w (GaveAE w (redA f A) (redE f A)) := by
  obtain ⟨i0, hi, hz0, hz1, hz2⟩ := info_parts info_long
  obtain ⟨vs, ve, rfl, hs, he⟩ := hA
  obtain ⟨sa, cs, rfl, _⟩ := hs.form
  obtain ⟨ae, ce, rfl, _⟩ := he.form
  have hC0 := ((Chg.refl (fun _ => False) w).alloc (.cells #[.int .i64 A.k, .slice sa A.s.length cs, .slice ae A.e.length ce] 25)).alloc (.cells #[.int .i64 0, .slice none 0 0, .slice none 0 0] 25)
  have hK1 := (Chg.refl (fun _ => False) (w.alloc (.cells #[.int .i64 A.k, .slice sa A.s.length cs, .slice ae A.e.length ce] 25))).alloc (.cells #[.int .i64 0, .slice none 0 0, .slice none 0 0] 25)
  obtain ⟨y0, y1, y2⟩ := cell_two w (.int .i64 A.k) (.slice sa A.s.length cs) (.slice ae A.e.length ce) 25
  have hB0 := Bx.new (w.alloc (.cells #[.int .i64 A.k, .slice sa A.s.length cs, .slice ae A.e.length ce] 25)) (.int .i64 0) (.slice none 0 0) (.slice none 0 0) 25
  rw [World.size_alloc] at hB0
  replace y0 := hK1.cell y0 id
  replace y1 := hK1.cell y1 id
  replace y2 := hK1.cell y2 id
  have hfi := r16fine_any f _ A _ (show Ara _ (.agg #[.int .i64 A.k, .slice sa A.s.length cs, .slice ae A.e.length ce]) A from ⟨_, _, rfl, hs.fr hC0, he.fr hC0⟩) hl
  unfold GaveI at hfi
  have HS := Lib.hid (And.intro hs he)
  have HC := Lib.hid hC0
  have HI := Lib.hid hI
  have HB0 := Lib.hid hB0
  clear hs he hC0 hK1 hI hB0
  by_cases hz : fineE f A = 0
  · rw [hz] at hfi
    obtain ⟨hb, hck, hk2⟩ := fine_chk hz
    obtain ⟨hsh, hpr, hkk⟩ := chkB_iff.1 hck
    obtain ⟨hm1, hl2, hl3, hml⟩ := rows_of hsh
    obtain ⟨L, hL⟩ := Int.eq_ofNat_of_zero_le hl2
    have hmany : manyN A.s = prodL A.s.dropLast := by unfold manyN; rw [if_pos hsh]
    obtain ⟨M, hM⟩ := Int.eq_ofNat_of_zero_le hm1
    have hfr : frN A = M := by unfold frN; rw [← hmany, hM, Int.toNat_natCast]
    have hlo : lonN A = L := by unfold lonN; rw [hL, Int.toNat_natCast]
    have hML : M * L = A.e.length := by
      rw [hpr, hM, hL] at hml
      exact_mod_cast hml
    have hL4 : L ≤ 4096 := by omega
    obtain ⟨el, hel⟩ : ∃ el, redL f A = el := ⟨_, rfl⟩
    have hfM : prodL A.s.dropLast = (M : Int) := by rw [← hmany, hM]
    obtain ⟨fr, hfrr⟩ : ∃ fr, A.s.dropLast = fr := ⟨_, rfl⟩
    have hE : redE f A = if shB fr then mdE M el else 9 := by unfold redE; rw [if_pos hz, hfr, hel, hfrr]
    have hAA : redA f A = if redE f A = 0 then ⟨1, fr, tabV M el⟩ else noA := by unfold redA; rw [hfr, hel, hfrr]
    have HEL := Lib.hid (show ∀ i, el i = rwP f (rowL A.e i L) from fun i => by rw [← hel]; unfold redL; rw [hlo])
    have hsl : A.s.length ≤ 4 := by have := (shB_iff.1 hsh).1; omega
    have hrw : ∀ w', Chg (fun _ => False) w w' → Calls Try.prog 30 #[.slice sa A.s.length cs] w' (fun e w2 => e = .returned (.tuple #[.int .i64 M, .int .i64 L]) ∧ Chg (fun _ => False) w' w2) := fun w' h => by
      have h1 := r16rows_any _ A.s w' (HS.out.1.fr h)
      unfold GaveRw at h1
      rw [hM, hL] at h1
      exact h1
    have hLE : A.e.length ≤ 1000000 := hl
    have HLE := Lib.hid hLE
    have hfl : fr.length = A.s.length - 1 := by rw [← hfrr, List.length_dropLast]
    have HP := Lib.hid (And.intro hML (And.intro hL4 (And.intro hfM (show fr.length ≤ 1000000 by omega))))
    have hdt : A.s.dropLast = A.s.take (A.s.length - 1) := List.dropLast_eq_take
    rw [hfrr] at hdt
    rw [hfrr] at hfM
    clear hz hb hck hk2 hkk hpr hl2 hl3 hL hsh hm1 hml hmany hM hfr hlo hML hL4 hel hl hLE
    cases hsf : shB fr with
    | true =>
      have HM4 := Lib.hid (show M ≤ 4096 by have := (shB_iff.1 hsf).2.2; omega)
      have HE := Lib.hid (show redE f A = mdE M el by rw [hE, hsf]; rfl)
      have HAA := Lib.hid hAA
      clear hE hAA hfM
      by_cases h0 : A.s.length = 0
      · have hd : decide ((0 : Int) < (A.s.length : Int)) = false := decide_eq_false (by omega)
        have hd2 : decide (0 < A.s.length) = false := decide_eq_false (by omega)
        have hfe : fr = A.s := by rw [hdt]; exact List.take_of_length_le (by omega)
        have HLK := Lib.hid (show ∀ w', Chg (fun _ => False) w w' → Ls w' (.slice sa A.s.length cs) fr from fun w' h => by rw [hfe]; exact HS.out.1.fr h)
        have hcn : ∀ w', Chg (fun _ => False) w w' → Calls Try.prog 68 #[.slice sa A.s.length cs] w' (fun e w2 => e = .returned (.tuple #[.int .i64 (prodL fr), .int .i64 0]) ∧ w2 = w') := fun w' h => by
          have h1 := r11count_any _ _ _ (HLK.out w' h)
          unfold GaveC at h1
          rw [cntE_ok hsf, cntN_ok hsf] at h1
          exact h1
        generalize prodL fr = PF at *
        clear h0 hfe hdt hfl hsf hsl hfrr
        generalize A.s.length = n at *
        go_enter Try.func31, Try.ntmps31
        go_wp2_with fail
        refine hfi.mono ?_
        clear hfi
        rintro e9 w1 ⟨rfl, hC1⟩
        replace y1 := hC1.cell y1 id
        replace y2 := hC1.cell y2 id
        have HB1 := Lib.hid (HB0.out.fr hC1)
        have HC1 := Lib.hid (HC.out.tr hC1)
        clear hC1
        go_wp2_with fail
        refine (hcn _ HC1.out).mono ?_
        clear hcn
        rintro e9 w2 ⟨rfl, rfl⟩
        go_wp2_with fail
        refine (hrw _ HC1.out).mono ?_
        clear hrw
        rintro e9 wb ⟨rfl, hC3⟩
        replace y2 := hC3.cell y2 id
        have HB3 := Lib.hid (HB1.out.fr hC3)
        have HC3 := Lib.hid (HC1.out.tr hC3)
        obtain ⟨gb, hgb⟩ : ∃ gb, wb.heap.size = gb := ⟨_, rfl⟩
        have HRB := Lib.hid (show w.heap.size + 1 < gb from hgb ▸ HB3.out.lt)
        have HGB := Lib.hid (show wb.heap.size ≤ gb from hgb ▸ Nat.le_refl _)
        have HGB2 := Lib.hid (show gb ≤ wb.heap.size from hgb ▸ Nat.le_refl _)
        clear hC3 hgb HC1 HB1 y0 y1
        go_wp2
        go_loopw [12, 13] (fun tv i wr => ∃ j : Nat, j ≤ M ∧ i = .int .i64 j ∧ fstE (tabP j el) = 0 ∧ Own wr gb 2 tv (tabV j el) ∧ Chg (fun _ => False) wb wr) (fun _ i _ => M - (intOf i).toNat)
        case atStart => exact ⟨0, Nat.zero_le _, rfl, rfl, Own.nil _ _ _, Chg.refl _ _⟩
        case round =>
          obtain ⟨j, hj, rfl, hok, hown, hC⟩ := hrel
          by_cases hlt : j < M
          · have hlt' : decide ((j : Int) < (M : Int)) = true := decide_eq_true (by omega)
            have hM4 := HM4.out
            have hkw : IntKind.i64.wrap ((j : Int) + 1) = (j : Int) + 1 := IntWalk.i64_in _ (by omega)
            have hfit : (j + 1) * L ≤ A.e.length := by rw [← HP.out.1]; exact Nat.mul_le_mul_right _ hlt
            obtain ⟨ak3, ck3, hS3, hrun3, _⟩ := (HS.out.2.fr (HC3.out.tr hC)).cut (j * L) ((j + 1) * L) L (Nat.mul_le_mul_right _ (Nat.le_succ _)) hfit (by rw [Nat.add_mul]; omega)
            have hrow := r16row_any f _ _ wr hS3 (by rw [show ((A.e.take ((j + 1) * L)).drop (j * L)).length = L from rowL_length hfit]; have := HP.out.2.1; omega) (rowL_In (i := j) (L := L) HI.out)
            rw [show rwP f ((A.e.take ((j + 1) * L)).drop (j * L)) = el j from (HEL.out j).symm] at hrow
            unfold GaveP at hrow
            have m1 : ((j : Int)) * (L : Int) = ((j * L : Nat) : Int) := (Int.natCast_mul _ _).symm
            have m2 : (j + 1) * L = j * L + L := by rw [Nat.add_mul]; omega
            have hl2 := HLE.out
            obtain ⟨lo, hlo⟩ : ∃ lo, j * L = lo := ⟨_, rfl⟩
            obtain ⟨hj2, hhj⟩ : ∃ hj2, (j + 1) * L = hj2 := ⟨_, rfl⟩
            rw [hlo, hhj] at hrun3
            rw [hlo] at m1 m2
            rw [hhj] at m2 hfit
            have k1 : IntKind.i64.wrap ((j : Int) * (L : Int)) = (lo : Int) := by rw [m1, IntWalk.i64_in _ (by omega)]
            have k2 : IntKind.i64.wrap ((lo : Int) + (L : Int)) = (hj2 : Int) := by rw [IntWalk.i64_in _ (by omega)]; omega
            replace y2 := hC.cell y2 id
            have hs1 := fstE_succ hok
            have hv1 := tabV_succ j el
            have HALL := Lib.hid (fun h => fstE_all (n := M) (k := j + 1) (el := el) hlt h)
            have hpl : (tabV j el).length ≤ 1000000 := by rw [tabV_length]; omega
            generalize tabV j el = pre at *
            generalize el j = q at *
            have HV := Lib.hid hv1
            have HS1 := Lib.hid hs1
            have HLT := Lib.hid hlt
            obtain ⟨al, Ll, cl, rfl, hL0⟩ := own_nm hown
            have HO := Lib.hid hown
            have HPL := Lib.hid (app_ok hpl)
            have HCr0 := Lib.hid hC
            clear hS3 hfit hM4 m1 m2 hl2 hlo hhj hok hown hC hs1 hv1 hlt hj hpl hL0
            by_cases hq : q.2 = 0
            · rw [hq] at hrow HS1
              clear hq HALL
              go_wp2_with fail
              refine hrow.mono ?_
              clear hrow
              rintro e9 w3 ⟨rfl, hC5⟩
              have HCr := Lib.hid (HCr0.out.tr hC5)
              replace HO := Lib.hid (HO.out.fr hC5)
              have HSZ3 := Lib.hid (show gb ≤ w3.heap.size from Nat.le_trans HGB2.out HCr.out.size)
              clear hC5 hrun3 y2
              go_wp2_with (refine wpList_append_own_any (by rfl) (.tmp 72) (.tmp 74) 23 (by rfl) gb 2 i0 (.int .i64 0) 1 8 Try.underlying23 hi hz0 hz1 hz2 rfl (by decide) (.slice al Ll cl) pre.length (pre.map I) (by rfl) (World.ownsRow.alloc HO.out _) (some ⟨w3.heap.size, 0, none⟩) 1 1 [.int .i64 q.1] (by rfl) rfl (fun j u hu => ⟨_, rfl, cell_one_new w3 _ _ j u hu⟩) (by simp [Value.oneCell']) HPL.out.1 HPL.out.2 (by rw [World.size_alloc]; exact Nat.le_succ_of_le HSZ3.out) ?_; intro v4 w4 hown4 hg4 _ hO4; have hC4 : Chg (fun _ => False) wb w4 := ((HCr.out.alloc _).grown hg4 (fun k e => .inr (by have := (HO.out.lt k e).1; have := HGB.out; omega))); have O4 := Lib.hid (own_put1 hown4 rfl); obtain ⟨al4, L4, cl4, rfl, hL4⟩ := own_nm O4.out)
              go_roundw
              case rel => exact ⟨j + 1, HLT.out, by go_num, HS1.out, by rw [HV.out]; exact O4.out, hC4⟩
              case measure => exact fit_meas j M HLT.out
            · have hqn : (q.2 != 0) = true := bne_t hq
              have HQ := Lib.hid (show mdE M el = q.2 from (HALL.out (by rw [HS1.out]; exact hq)).trans HS1.out)
              have HQ0 := Lib.hid hq
              clear hq HALL
              go_wp2_with fail
              refine hrow.mono ?_
              clear hrow
              rintro e9 w3 ⟨rfl, hC5⟩
              obtain ⟨z0, z1, z2, f0, f1, f2⟩ := HB3.out.fr (HCr0.out.tr hC5)
              obtain ⟨⟨g0, g1⟩, g2⟩ := set3_cells (.int .i64 0) (.slice none 0 0) (.slice none 0 0) z0 z1 z2
              have HCr := Lib.hid (HC3.out.tr (HCr0.out.tr hC5))
              clear hC5 hrun3 y2
              go_wp2
              simp [bodyPost, results, Try.results31, go_sem, g0, g1, g2]
              rw [HAA.out, HE.out, HQ.out, if_neg HQ0.out]
              exact leaveNo (Nat.le_succ _) HCr.out
          · obtain rfl : j = M := by omega
            have hlt' : decide ((j : Int) < (j : Int)) = false := decide_eq_false (by omega)
            have hof := r11of_any 1 _ _ fr (tabV j el) wr (HLK.out _ (HC3.out.tr hC)) hown.ls HP.out.2.2.2 (by rw [tabV_length]; have := HM4.out; omega)
            unfold GaveA OwnA at hof
            obtain ⟨al, Ll, cl, rfl, hL0⟩ := own_nm hown
            have HCr := Lib.hid hC
            have HOK := Lib.hid hok
            clear hlt hj hok hown hC hL0
            go_wp2_with fail
            refine hof.mono ?_
            clear hof
            rintro e9 w5 ⟨v5, rfl, ⟨vs5, ve5, rfl, ho1, ho2⟩, hC5⟩
            obtain ⟨a1, c1, rfl⟩ := own_name ho1
            obtain ⟨a2, c2, rfl⟩ := own_name ho2
            have HLT := Lib.hid (Nat.lt_of_lt_of_le HRB.out (show gb ≤ wr.heap.size from Nat.le_trans HGB2.out HCr.out.size))
            have HO1 := Lib.hid ho1
            have HO2 := Lib.hid ho2
            obtain ⟨z0, z1, z2, f0, f1, f2⟩ := HB3.out.fr (HCr.out.tr hC5)
            obtain ⟨⟨g0, g1⟩, g2⟩ := set3_cells (.int .i64 1) (.slice a1 fr.length c1) (.slice a2 (tabV j el).length c2) z0 z1 z2
            have HC5 := Lib.hid (HC3.out.tr (HCr.out.tr hC5))
            clear hC5 ho1 ho2 y2
            go_wp2
            simp [bodyPost, results, Try.results31, go_sem, g0, g1, g2]
            rw [HAA.out, HE.out, show mdE j el = 0 from HOK.out, if_pos rfl]
            exact leaveAE HO1.out HO2.out (Nat.le_succ _) HLT.out HLT.out HC5.out
      · have hd : decide ((0 : Int) < (A.s.length : Int)) = true := decide_eq_true (by omega)
        have hd2 : decide (0 < A.s.length) = true := decide_eq_true (by omega)
        obtain ⟨m, hm⟩ : ∃ m, A.s.length - 1 = m := ⟨_, rfl⟩
        have hwr : IntKind.i64.wrap ((A.s.length : Int) - 1) = (m : Int) := by rw [IntWalk.i64_in _ (by omega)]; omega
        rw [hm] at hdt
        obtain ⟨ak, ck, hlk, hrun⟩ := icut_upto HS.out.1 m (by omega)
        rw [← hdt] at hlk
        have HLK := Lib.hid (show ∀ w', Chg (fun _ => False) w w' → Ls w' (.slice ak m ck) fr from fun w' h => hlk.fr h)
        have hcn : ∀ w', Chg (fun _ => False) w w' → Calls Try.prog 68 #[.slice ak m ck] w' (fun e w2 => e = .returned (.tuple #[.int .i64 (prodL fr), .int .i64 0]) ∧ w2 = w') := fun w' h => by
          have h1 := r11count_any _ _ _ (HLK.out w' h)
          unfold GaveC at h1
          rw [cntE_ok hsf, cntN_ok hsf] at h1
          exact h1
        generalize prodL fr = PF at *
        clear h0 hlk hdt hfl hsf hsl hfrr hm
        generalize A.s.length = n at *
        go_enter Try.func31, Try.ntmps31
        go_wp2_with fail
        refine hfi.mono ?_
        clear hfi
        rintro e9 w1 ⟨rfl, hC1⟩
        replace y1 := hC1.cell y1 id
        replace y2 := hC1.cell y2 id
        have HB1 := Lib.hid (HB0.out.fr hC1)
        have HC1 := Lib.hid (HC.out.tr hC1)
        clear hC1
        go_wp2_with fail
        refine (hcn _ HC1.out).mono ?_
        clear hcn
        rintro e9 w2 ⟨rfl, rfl⟩
        go_wp2_with fail
        refine (hrw _ HC1.out).mono ?_
        clear hrw
        rintro e9 wb ⟨rfl, hC3⟩
        replace y2 := hC3.cell y2 id
        have HB3 := Lib.hid (HB1.out.fr hC3)
        have HC3 := Lib.hid (HC1.out.tr hC3)
        obtain ⟨gb, hgb⟩ : ∃ gb, wb.heap.size = gb := ⟨_, rfl⟩
        have HRB := Lib.hid (show w.heap.size + 1 < gb from hgb ▸ HB3.out.lt)
        have HGB := Lib.hid (show wb.heap.size ≤ gb from hgb ▸ Nat.le_refl _)
        have HGB2 := Lib.hid (show gb ≤ wb.heap.size from hgb ▸ Nat.le_refl _)
        clear hC3 hgb HC1 HB1 y0 y1
        go_wp2
        go_loopw [12, 13] (fun tv i wr => ∃ j : Nat, j ≤ M ∧ i = .int .i64 j ∧ fstE (tabP j el) = 0 ∧ Own wr gb 2 tv (tabV j el) ∧ Chg (fun _ => False) wb wr) (fun _ i _ => M - (intOf i).toNat)
        case atStart => exact ⟨0, Nat.zero_le _, rfl, rfl, Own.nil _ _ _, Chg.refl _ _⟩
        case round =>
          obtain ⟨j, hj, rfl, hok, hown, hC⟩ := hrel
          by_cases hlt : j < M
          · have hlt' : decide ((j : Int) < (M : Int)) = true := decide_eq_true (by omega)
            have hM4 := HM4.out
            have hkw : IntKind.i64.wrap ((j : Int) + 1) = (j : Int) + 1 := IntWalk.i64_in _ (by omega)
            have hfit : (j + 1) * L ≤ A.e.length := by rw [← HP.out.1]; exact Nat.mul_le_mul_right _ hlt
            obtain ⟨ak3, ck3, hS3, hrun3, _⟩ := (HS.out.2.fr (HC3.out.tr hC)).cut (j * L) ((j + 1) * L) L (Nat.mul_le_mul_right _ (Nat.le_succ _)) hfit (by rw [Nat.add_mul]; omega)
            have hrow := r16row_any f _ _ wr hS3 (by rw [show ((A.e.take ((j + 1) * L)).drop (j * L)).length = L from rowL_length hfit]; have := HP.out.2.1; omega) (rowL_In (i := j) (L := L) HI.out)
            rw [show rwP f ((A.e.take ((j + 1) * L)).drop (j * L)) = el j from (HEL.out j).symm] at hrow
            unfold GaveP at hrow
            have m1 : ((j : Int)) * (L : Int) = ((j * L : Nat) : Int) := (Int.natCast_mul _ _).symm
            have m2 : (j + 1) * L = j * L + L := by rw [Nat.add_mul]; omega
            have hl2 := HLE.out
            obtain ⟨lo, hlo⟩ : ∃ lo, j * L = lo := ⟨_, rfl⟩
            obtain ⟨hj2, hhj⟩ : ∃ hj2, (j + 1) * L = hj2 := ⟨_, rfl⟩
            rw [hlo, hhj] at hrun3
            rw [hlo] at m1 m2
            rw [hhj] at m2 hfit
            have k1 : IntKind.i64.wrap ((j : Int) * (L : Int)) = (lo : Int) := by rw [m1, IntWalk.i64_in _ (by omega)]
            have k2 : IntKind.i64.wrap ((lo : Int) + (L : Int)) = (hj2 : Int) := by rw [IntWalk.i64_in _ (by omega)]; omega
            replace y2 := hC.cell y2 id
            have hs1 := fstE_succ hok
            have hv1 := tabV_succ j el
            have HALL := Lib.hid (fun h => fstE_all (n := M) (k := j + 1) (el := el) hlt h)
            have hpl : (tabV j el).length ≤ 1000000 := by rw [tabV_length]; omega
            generalize tabV j el = pre at *
            generalize el j = q at *
            have HV := Lib.hid hv1
            have HS1 := Lib.hid hs1
            have HLT := Lib.hid hlt
            obtain ⟨al, Ll, cl, rfl, hL0⟩ := own_nm hown
            have HO := Lib.hid hown
            have HPL := Lib.hid (app_ok hpl)
            have HCr0 := Lib.hid hC
            clear hS3 hfit hM4 m1 m2 hl2 hlo hhj hok hown hC hs1 hv1 hlt hj hpl hL0
            by_cases hq : q.2 = 0
            · rw [hq] at hrow HS1
              clear hq HALL
              go_wp2_with fail
              refine hrow.mono ?_
              clear hrow
              rintro e9 w3 ⟨rfl, hC5⟩
              have HCr := Lib.hid (HCr0.out.tr hC5)
              replace HO := Lib.hid (HO.out.fr hC5)
              have HSZ3 := Lib.hid (show gb ≤ w3.heap.size from Nat.le_trans HGB2.out HCr.out.size)
              clear hC5 hrun3 y2
              go_wp2_with (refine wpList_append_own_any (by rfl) (.tmp 72) (.tmp 74) 23 (by rfl) gb 2 i0 (.int .i64 0) 1 8 Try.underlying23 hi hz0 hz1 hz2 rfl (by decide) (.slice al Ll cl) pre.length (pre.map I) (by rfl) (World.ownsRow.alloc HO.out _) (some ⟨w3.heap.size, 0, none⟩) 1 1 [.int .i64 q.1] (by rfl) rfl (fun j u hu => ⟨_, rfl, cell_one_new w3 _ _ j u hu⟩) (by simp [Value.oneCell']) HPL.out.1 HPL.out.2 (by rw [World.size_alloc]; exact Nat.le_succ_of_le HSZ3.out) ?_; intro v4 w4 hown4 hg4 _ hO4; have hC4 : Chg (fun _ => False) wb w4 := ((HCr.out.alloc _).grown hg4 (fun k e => .inr (by have := (HO.out.lt k e).1; have := HGB.out; omega))); have O4 := Lib.hid (own_put1 hown4 rfl); obtain ⟨al4, L4, cl4, rfl, hL4⟩ := own_nm O4.out)
              go_roundw
              case rel => exact ⟨j + 1, HLT.out, by go_num, HS1.out, by rw [HV.out]; exact O4.out, hC4⟩
              case measure => exact fit_meas j M HLT.out
            · have hqn : (q.2 != 0) = true := bne_t hq
              have HQ := Lib.hid (show mdE M el = q.2 from (HALL.out (by rw [HS1.out]; exact hq)).trans HS1.out)
              have HQ0 := Lib.hid hq
              clear hq HALL
              go_wp2_with fail
              refine hrow.mono ?_
              clear hrow
              rintro e9 w3 ⟨rfl, hC5⟩
              obtain ⟨z0, z1, z2, f0, f1, f2⟩ := HB3.out.fr (HCr0.out.tr hC5)
              obtain ⟨⟨g0, g1⟩, g2⟩ := set3_cells (.int .i64 0) (.slice none 0 0) (.slice none 0 0) z0 z1 z2
              have HCr := Lib.hid (HC3.out.tr (HCr0.out.tr hC5))
              clear hC5 hrun3 y2
              go_wp2
              simp [bodyPost, results, Try.results31, go_sem, g0, g1, g2]
              rw [HAA.out, HE.out, HQ.out, if_neg HQ0.out]
              exact leaveNo (Nat.le_succ _) HCr.out
          · obtain rfl : j = M := by omega
            have hlt' : decide ((j : Int) < (j : Int)) = false := decide_eq_false (by omega)
            have hof := r11of_any 1 _ _ fr (tabV j el) wr (HLK.out _ (HC3.out.tr hC)) hown.ls HP.out.2.2.2 (by rw [tabV_length]; have := HM4.out; omega)
            unfold GaveA OwnA at hof
            obtain ⟨al, Ll, cl, rfl, hL0⟩ := own_nm hown
            have HCr := Lib.hid hC
            have HOK := Lib.hid hok
            clear hlt hj hok hown hC hL0
            go_wp2_with fail
            refine hof.mono ?_
            clear hof
            rintro e9 w5 ⟨v5, rfl, ⟨vs5, ve5, rfl, ho1, ho2⟩, hC5⟩
            obtain ⟨a1, c1, rfl⟩ := own_name ho1
            obtain ⟨a2, c2, rfl⟩ := own_name ho2
            have HLT := Lib.hid (Nat.lt_of_lt_of_le HRB.out (show gb ≤ wr.heap.size from Nat.le_trans HGB2.out HCr.out.size))
            have HO1 := Lib.hid ho1
            have HO2 := Lib.hid ho2
            obtain ⟨z0, z1, z2, f0, f1, f2⟩ := HB3.out.fr (HCr.out.tr hC5)
            obtain ⟨⟨g0, g1⟩, g2⟩ := set3_cells (.int .i64 1) (.slice a1 fr.length c1) (.slice a2 (tabV j el).length c2) z0 z1 z2
            have HC5 := Lib.hid (HC3.out.tr (HCr.out.tr hC5))
            clear hC5 ho1 ho2 y2
            go_wp2
            simp [bodyPost, results, Try.results31, go_sem, g0, g1, g2]
            rw [HAA.out, HE.out, show mdE j el = 0 from HOK.out, if_pos rfl]
            exact leaveAE HO1.out HO2.out (Nat.le_succ _) HLT.out HLT.out HC5.out
    | false =>
      have HE := Lib.hid (show redE f A = 9 by rw [hE, hsf]; rfl)
      have HAA := Lib.hid hAA
      clear hE hAA hfM
      by_cases h0 : A.s.length = 0
      · have hd : decide ((0 : Int) < (A.s.length : Int)) = false := decide_eq_false (by omega)
        have hd2 : decide (0 < A.s.length) = false := decide_eq_false (by omega)
        have hfe : fr = A.s := by rw [hdt]; exact List.take_of_length_le (by omega)
        have HLK := Lib.hid (show ∀ w', Chg (fun _ => False) w w' → Ls w' (.slice sa A.s.length cs) fr from fun w' h => by rw [hfe]; exact HS.out.1.fr h)
        have hcn : ∀ w', Chg (fun _ => False) w w' → Calls Try.prog 68 #[.slice sa A.s.length cs] w' (fun e w2 => e = .returned (.tuple #[.int .i64 0, .int .i64 110]) ∧ w2 = w') := fun w' h => by
          have h1 := r11count_any _ _ _ (HLK.out w' h)
          unfold GaveC at h1
          rw [cntE_not hsf, cntN_not hsf] at h1
          exact h1
        clear h0 hfe hdt hfl hsf hsl hfrr
        generalize A.s.length = n at *
        go_enter Try.func31, Try.ntmps31
        go_wp2_with fail
        refine hfi.mono ?_
        clear hfi
        rintro e9 w1 ⟨rfl, hC1⟩
        replace y1 := hC1.cell y1 id
        replace y2 := hC1.cell y2 id
        have HB1 := Lib.hid (HB0.out.fr hC1)
        have HC1 := Lib.hid (HC.out.tr hC1)
        clear hC1
        go_wp2_with fail
        refine (hcn _ HC1.out).mono ?_
        clear hcn
        rintro e9 w2 ⟨rfl, rfl⟩
        obtain ⟨z0, z1, z2, f0, f1, f2⟩ := HB1.out
        obtain ⟨⟨g0, g1⟩, g2⟩ := set3_cells (.int .i64 0) (.slice none 0 0) (.slice none 0 0) z0 z1 z2
        clear hrw y2
        go_wp2
        simp [bodyPost, results, Try.results31, go_sem, g0, g1, g2]
        rw [HAA.out, HE.out]
        exact leaveNo (Nat.le_succ _) HC1.out
      · have hd : decide ((0 : Int) < (A.s.length : Int)) = true := decide_eq_true (by omega)
        have hd2 : decide (0 < A.s.length) = true := decide_eq_true (by omega)
        obtain ⟨m, hm⟩ : ∃ m, A.s.length - 1 = m := ⟨_, rfl⟩
        have hwr : IntKind.i64.wrap ((A.s.length : Int) - 1) = (m : Int) := by rw [IntWalk.i64_in _ (by omega)]; omega
        rw [hm] at hdt
        obtain ⟨ak, ck, hlk, hrun⟩ := icut_upto HS.out.1 m (by omega)
        rw [← hdt] at hlk
        have HLK := Lib.hid (show ∀ w', Chg (fun _ => False) w w' → Ls w' (.slice ak m ck) fr from fun w' h => hlk.fr h)
        have hcn : ∀ w', Chg (fun _ => False) w w' → Calls Try.prog 68 #[.slice ak m ck] w' (fun e w2 => e = .returned (.tuple #[.int .i64 0, .int .i64 110]) ∧ w2 = w') := fun w' h => by
          have h1 := r11count_any _ _ _ (HLK.out w' h)
          unfold GaveC at h1
          rw [cntE_not hsf, cntN_not hsf] at h1
          exact h1
        clear h0 hlk hdt hfl hsf hsl hfrr hm
        generalize A.s.length = n at *
        go_enter Try.func31, Try.ntmps31
        go_wp2_with fail
        refine hfi.mono ?_
        clear hfi
        rintro e9 w1 ⟨rfl, hC1⟩
        replace y1 := hC1.cell y1 id
        replace y2 := hC1.cell y2 id
        have HB1 := Lib.hid (HB0.out.fr hC1)
        have HC1 := Lib.hid (HC.out.tr hC1)
        clear hC1
        go_wp2_with fail
        refine (hcn _ HC1.out).mono ?_
        clear hcn
        rintro e9 w2 ⟨rfl, rfl⟩
        obtain ⟨z0, z1, z2, f0, f1, f2⟩ := HB1.out
        obtain ⟨⟨g0, g1⟩, g2⟩ := set3_cells (.int .i64 0) (.slice none 0 0) (.slice none 0 0) z0 z1 z2
        clear hrw y2
        go_wp2
        simp [bodyPost, results, Try.results31, go_sem, g0, g1, g2]
        rw [HAA.out, HE.out]
        exact leaveNo (Nat.le_succ _) HC1.out
  · obtain ⟨n, hn⟩ : ∃ n, fineE f A = n := ⟨_, rfl⟩
    have HR := Lib.hid (show redE f A = n ∧ redA f A = noA from ⟨by unfold redE; rw [if_neg hz, hn], by unfold redA redE; rw [if_neg hz, if_neg hz]⟩)
    have hzn : (n != 0) = true := by rw [← hn]; exact bne_iff_ne.2 hz
    rw [hn] at hfi
    clear hz hn
    go_enter Try.func31, Try.ntmps31
    go_wp2_with fail
    refine hfi.mono ?_
    clear hfi
    rintro e9 w1 ⟨rfl, hC1⟩
    obtain ⟨z0, z1, z2, f0, f1, f2⟩ := HB0.out.fr hC1
    obtain ⟨⟨g0, g1⟩, g2⟩ := set3_cells (.int .i64 0) (.slice none 0 0) (.slice none 0 0) z0 z1 z2
    have HC1 := Lib.hid (HC.out.tr hC1)
    clear hC1 y0 y1 y2
    go_wp2
    simp [bodyPost, results, Try.results31, go_sem, g0, g1, g2]
    rw [HR.out.1, HR.out.2]
    exact leaveNo (Nat.le_succ _) HC1.out
end Go.Proofs.Ytjmlekdgipinfaa
