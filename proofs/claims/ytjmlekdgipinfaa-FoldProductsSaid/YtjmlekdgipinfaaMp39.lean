/- The document's fold: scan. -/
import Derived.Test.YtjmlekdgipinfaaMp38
namespace Go.Proofs.Ytjmlekdgipinfaa
open Go.RowKit Go.Shelf

theorem part_at (f : Int) (xs : List Int) (L j m : Nat) (h : m < L) : partP f xs L (j * L + m) = rwP f ((xs.take (j * L + (m + 1))).drop (j * L)) := by
  unfold partP rowL
  rw [show (j * L + m) / L = j by rw [Nat.mul_comm, Nat.mul_add_div (by omega), Nat.div_eq_of_lt h]; rfl, show (j * L + m) % L = m by rw [Nat.mul_comm, Nat.mul_add_mod, Nat.mod_eq_of_lt h]]
  congr 1
  rw [List.take_drop, List.take_take, Nat.min_eq_left (by rw [Nat.add_mul]; omega)]
set_option maxRecDepth 100000 in
set_option maxHeartbeats 1000000 in
theorem r16scan_any (f : Int) (u : Value) (A : Ar) (w : World) (hA : Ara w u A) (hl : A.e.length ≤ 1000000) (hI : ∀ x ∈ A.e, In x) : Calls Try.prog 32 #[.int .i64 f, u] w (GaveAE w (scnA f A) (scnE f A)) := by
  obtain ⟨i0, hi, hz0, hz1, hz2⟩ := info_parts info_long
  obtain ⟨vs, ve, rfl, hs, he⟩ := hA
  obtain ⟨sa, cs, rfl, _⟩ := hs.form
  obtain ⟨ae, ce, rfl, _⟩ := he.form
  have hC0 := ((Chg.refl (fun _ => False) w).alloc (.cells #[.int .i64 A.k, .slice sa A.s.length cs, .slice ae A.e.length ce] 25)).alloc (.cells #[.int .i64 0, .slice none 0 0, .slice none 0 0] 25)
  have hK1 := (Chg.refl (fun _ => False) (w.alloc (.cells #[.int .i64 A.k, .slice sa A.s.length cs, .slice ae A.e.length ce] 25))).alloc (.cells #[.int .i64 0, .slice none 0 0, .slice none 0 0] 25)
  obtain ⟨y0, y1, y2⟩ := cell_two w (.int .i64 A.k) (.slice sa A.s.length cs) (.slice ae A.e.length ce) 25
  have hB0 := Bx.new (w.alloc (.cells #[.int .i64 A.k, .slice sa A.s.length cs, .slice ae A.e.length ce] 25)) (.int .i64 0) (.slice none 0 0) (.slice none 0 0) 25
  rw [World.size_alloc] at hB0
  replace y0 := hK1.cell y0 id
  replace y1 := hK1.cell y1 id
  replace y2 := hK1.cell y2 id
  have hfi := r16fine_any f _ A _ (show Ara _ (.agg #[.int .i64 A.k, .slice sa A.s.length cs, .slice ae A.e.length ce]) A from ⟨_, _, rfl, hs.fr hC0, he.fr hC0⟩) hl
  unfold GaveI at hfi
  have HS := Lib.hid (And.intro hs he)
  have HC := Lib.hid hC0
  have HI := Lib.hid hI
  have HB0 := Lib.hid hB0
  clear hs he hC0 hK1 hI hB0
  by_cases hz : fineE f A = 0
  · rw [hz] at hfi
    obtain ⟨hb, hck, hk2⟩ := fine_chk hz
    obtain ⟨hsh, hpr, hkk⟩ := chkB_iff.1 hck
    obtain ⟨hm1, hl2, hl3, hml⟩ := rows_of hsh
    obtain ⟨L, hL⟩ := Int.eq_ofNat_of_zero_le hl2
    obtain ⟨M, hM⟩ := Int.eq_ofNat_of_zero_le hm1
    have hlo : lonN A = L := by unfold lonN; rw [hL, Int.toNat_natCast]
    have hML : M * L = A.e.length := by
      rw [hpr, hM, hL] at hml
      exact_mod_cast hml
    have hL4 : L ≤ 4096 := by omega
    obtain ⟨el, hel⟩ : ∃ el, partP f A.e L = el := ⟨_, rfl⟩
    have HE := Lib.hid (show scnE f A = mdE A.e.length el by unfold scnE; rw [if_pos hz, hlo, hel])
    have HAA := Lib.hid (show scnA f A = if scnE f A = 0 then ⟨1, A.s, tabV A.e.length el⟩ else noA by unfold scnA; rw [hlo, hel])
    have HEL := Lib.hid (show ∀ j m, m < L → el (j * L + m) = rwP f ((A.e.take (j * L + (m + 1))).drop (j * L)) from fun j m h => by rw [← hel]; exact part_at f A.e L j m h)
    have hsl : A.s.length ≤ 4 := by have := (shB_iff.1 hsh).1; omega
    have hrw : ∀ w', Chg (fun _ => False) w w' → Calls Try.prog 30 #[.slice sa A.s.length cs] w' (fun e w2 => e = .returned (.tuple #[.int .i64 M, .int .i64 L]) ∧ Chg (fun _ => False) w' w2) := fun w' h => by
      have h1 := r16rows_any _ A.s w' (HS.out.1.fr h)
      unfold GaveRw at h1
      rw [hM, hL] at h1
      exact h1
    have HP := Lib.hid (And.intro hML (And.intro hL4 (show A.s.length ≤ 1000000 by omega)))
    have hn4 : A.e.length ≤ 4096 := by have := (shB_iff.1 hsh).2.2; omega
    have HN4 := Lib.hid hn4
    clear hz hb hck hk2 hkk hpr hl2 hl3 hL hsh hm1 hml hM hlo hML hL4 hel hl hsl hn4
    generalize hnn : A.s.length = n at *
    have HNN := Lib.hid hnn
    clear hnn
    go_enter Try.func32, Try.ntmps32
    go_wp2_with fail
    refine hfi.mono ?_
    clear hfi
    rintro e9 w1 ⟨rfl, hC1⟩
    replace y1 := hC1.cell y1 id
    replace y2 := hC1.cell y2 id
    have HB1 := Lib.hid (HB0.out.fr hC1)
    have HC1 := Lib.hid (HC.out.tr hC1)
    clear hC1
    go_wp2_with fail
    refine (hrw _ HC1.out).mono ?_
    clear hrw
    rintro e9 wb ⟨rfl, hC3⟩
    replace y1 := hC3.cell y1 id
    replace y2 := hC3.cell y2 id
    have HB3 := Lib.hid (HB1.out.fr hC3)
    have HC3 := Lib.hid (HC1.out.tr hC3)
    obtain ⟨gb, hgb⟩ : ∃ gb, wb.heap.size = gb := ⟨_, rfl⟩
    have HRB := Lib.hid (show w.heap.size + 1 < gb from hgb ▸ HB3.out.lt)
    have HGB := Lib.hid (show wb.heap.size ≤ gb from hgb ▸ Nat.le_refl _)
    have HGB2 := Lib.hid (show gb ≤ wb.heap.size from hgb ▸ Nat.le_refl _)
    have HY := Lib.hid (And.intro y1 y2)
    clear hC3 hgb HC1 HB1 y0 y1 y2
    go_wp2
    go_loopw [9, 10] (fun tv i wr => ∃ j : Nat, j ≤ M ∧ i = .int .i64 j ∧ fstE (tabP (j * L) el) = 0 ∧ Own wr gb 2 tv (tabV (j * L) el) ∧ Chg (fun _ => False) wb wr) (fun _ i _ => M - (intOf i).toNat)
    case atStart => exact ⟨0, Nat.zero_le _, rfl, by rw [Nat.zero_mul]; rfl, by rw [Nat.zero_mul]; exact Own.nil _ _ _, Chg.refl _ _⟩
    case round =>
      obtain ⟨j, hj, rfl, hok, hown, hC⟩ := hrel
      by_cases hin : j < M ∧ 0 < L
      · obtain ⟨hlt, hL0⟩ := hin
        have hlt' : decide ((j : Int) < (M : Int)) = true := decide_eq_true (by omega)
        have hl0' : decide ((0 : Int) < (L : Int)) = true := decide_eq_true (by omega)
        have hl0'' : decide (0 < L) = true := decide_eq_true hL0
        have hML := HP.out.1
        have hfit : (j + 1) * L ≤ A.e.length := by rw [← hML]; exact Nat.mul_le_mul_right _ hlt
        have hM4 : M ≤ 4096 := by
          have : M * 1 ≤ M * L := Nat.mul_le_mul_left _ hL0
          have := HN4.out
          omega
        have hkw : IntKind.i64.wrap ((j : Int) + 1) = (j : Int) + 1 := IntWalk.i64_in _ (by omega)
        have HEJ := Lib.hid (HEL.out j)
        have m1 : ((j : Int)) * (L : Int) = ((j * L : Nat) : Int) := (Int.natCast_mul _ _).symm
        have m2 : (j + 1) * L = j * L + L := by rw [Nat.add_mul]; omega
        obtain ⟨lo, hlo⟩ : ∃ lo, j * L = lo := ⟨_, rfl⟩
        rw [hlo] at m1 m2 hok hown HEJ
        rw [m2] at hfit
        have k1 : IntKind.i64.wrap ((j : Int) * (L : Int)) = (lo : Int) := by rw [m1, IntWalk.i64_in _ (by have := HN4.out; omega)]
        have HFIT := Lib.hid hfit
        have HM2 := Lib.hid m2
        have HLT := Lib.hid hlt
        have HOK := Lib.hid hok
        have HOW := Lib.hid hown
        have HCX := Lib.hid hC
        obtain ⟨al, Ll, cl, rfl, hLn⟩ := own_nm hown
        clear m1 m2 hlo hM4 hML hfit hok hown hC hlt hj hLn
        go_wp2
        go_loopw [9, 11] (fun tv i wz => ∃ kk m : Nat, kk = m + 1 ∧ m ≤ L ∧ i = .int .i64 kk ∧ fstE (tabP (lo + m) el) = 0 ∧ Own wz gb 2 tv (tabV (lo + m) el) ∧ Chg (fun _ => False) wb wz) (fun _ i _ => L + 1 - (intOf i).toNat)
        case atStart => exact ⟨1, 0, rfl, Nat.zero_le _, rfl, HOK.out, HOW.out, HCX.out⟩
        case round =>
          obtain ⟨kk, m, hkm, hm, rfl, hok, hown, hC⟩ := hrel
          have y2 := hC.cell HY.out.2 id
          by_cases hmL : m < L
          · have d1 : decide ((kk : Int) ≤ (L : Int)) = true := decide_eq_true (by omega)
            have d2 : decide (kk ≤ L) = true := decide_eq_true (by omega)
            have hn4 := HN4.out
            have hfitm : lo + kk ≤ A.e.length := by have := HFIT.out; omega
            obtain ⟨ak3, ck3, hS3, hrun3, _⟩ := (HS.out.2.fr (HC3.out.tr hC)).cut lo (lo + kk) kk (Nat.le_add_right _ _) hfitm (by omega)
            have hrow := r16row_any f _ _ wr hS3 (by rw [List.length_drop, List.length_take]; omega) (fun x hx => HI.out x (List.mem_of_mem_take (List.mem_of_mem_drop hx)))
            rw [show rwP f ((A.e.take (lo + kk)).drop lo) = el (lo + m) from by rw [hkm]; exact (HEJ.out m hmL).symm] at hrow
            unfold GaveP at hrow
            obtain ⟨hj2, hhj⟩ : ∃ hj2, lo + kk = hj2 := ⟨_, rfl⟩
            rw [hhj] at hrun3
            have k2 : IntKind.i64.wrap ((lo : Int) + (kk : Int)) = (hj2 : Int) := by rw [IntWalk.i64_in _ (by omega)]; omega
            have k3 : IntKind.i64.wrap ((kk : Int) + 1) = (kk : Int) + 1 := IntWalk.i64_in _ (by omega)
            have hs1 := fstE_succ hok
            have hv1 := tabV_succ (lo + m) el
            have HALL := Lib.hid (fun h => fstE_all (n := A.e.length) (k := lo + m + 1) (el := el) (by have := HFIT.out; omega) h)
            have hpl : (tabV (lo + m) el).length ≤ 1000000 := by rw [tabV_length]; omega
            generalize tabV (lo + m) el = pre at *
            generalize el (lo + m) = q at *
            have HV := Lib.hid hv1
            have HS1 := Lib.hid hs1
            have HKM := Lib.hid hkm
            have HMM := Lib.hid hmL
            obtain ⟨al, Ll, cl, rfl, hL0⟩ := own_nm hown
            have HO := Lib.hid hown
            have HPL := Lib.hid (app_ok hpl)
            have HCr0 := Lib.hid hC
            clear hS3 hfitm hn4 hhj hok hown hC hs1 hv1 hmL hm hkm hpl hL0
            by_cases hq : q.2 = 0
            · rw [hq] at hrow HS1
              clear hq HALL
              go_wp2_with fail
              refine hrow.mono ?_
              clear hrow
              rintro e9 w3 ⟨rfl, hC5⟩
              have HCr := Lib.hid (HCr0.out.tr hC5)
              replace HO := Lib.hid (HO.out.fr hC5)
              have HSZ3 := Lib.hid (show gb ≤ w3.heap.size from Nat.le_trans HGB2.out HCr.out.size)
              clear hC5 hrun3 y2
              go_wp2_with (refine wpList_append_own_any (by rfl) (.tmp 61) (.tmp 63) 23 (by rfl) gb 2 i0 (.int .i64 0) 1 8 Try.underlying23 hi hz0 hz1 hz2 rfl (by decide) (.slice al Ll cl) pre.length (pre.map I) (by rfl) (World.ownsRow.alloc HO.out _) (some ⟨w3.heap.size, 0, none⟩) 1 1 [.int .i64 q.1] (by rfl) rfl (fun j u hu => ⟨_, rfl, cell_one_new w3 _ _ j u hu⟩) (by simp [Value.oneCell']) HPL.out.1 HPL.out.2 (by rw [World.size_alloc]; exact Nat.le_succ_of_le HSZ3.out) ?_; intro v4 w4 hown4 hg4 _ hO4; have hC4 : Chg (fun _ => False) wb w4 := ((HCr.out.alloc _).grown hg4 (fun k e => .inr (by have := (HO.out.lt k e).1; have := HGB.out; omega))); have O4 := Lib.hid (own_put1 hown4 rfl); obtain ⟨al4, L4, cl4, rfl, hL4⟩ := own_nm O4.out)
              go_roundw
              case rel => exact ⟨kk + 1, m + 1, by have := HKM.out; omega, HMM.out, by go_num, HS1.out, by rw [show lo + (m + 1) = lo + m + 1 from rfl, HV.out]; exact O4.out, hC4⟩
              case measure => simp only [intOf]; have := HKM.out; have := HMM.out; omega
            · have hqn : (q.2 != 0) = true := bne_t hq
              have HQ := Lib.hid (show mdE A.e.length el = q.2 from (HALL.out (by rw [HS1.out]; exact hq)).trans HS1.out)
              have HQ0 := Lib.hid hq
              clear hq HALL
              go_wp2_with fail
              refine hrow.mono ?_
              clear hrow
              rintro e9 w3 ⟨rfl, hC5⟩
              obtain ⟨z0, z1, z2, f0, f1, f2⟩ := HB3.out.fr (HCr0.out.tr hC5)
              obtain ⟨⟨g0, g1⟩, g2⟩ := set3_cells (.int .i64 0) (.slice none 0 0) (.slice none 0 0) z0 z1 z2
              have HCr := Lib.hid (HC3.out.tr (HCr0.out.tr hC5))
              clear hC5 hrun3 y2
              go_wp2
              simp [bodyPost, results, Try.results32, go_sem, g0, g1, g2]
              rw [HAA.out, HE.out, HQ.out, if_neg HQ0.out]
              exact leaveNo (Nat.le_succ _) HCr.out
          · obtain rfl : m = L := by omega
            have d1 : decide ((kk : Int) ≤ (m : Int)) = false := decide_eq_false (by omega)
            have d2 : decide (kk ≤ m) = false := decide_eq_false (by omega)
            have HO := Lib.hid hown
            have HOK2 := Lib.hid hok
            have HC4 := Lib.hid hC
            obtain ⟨al, Ll, cl, rfl, hL0⟩ := own_nm hown
            clear hmL hm hkm hok hown hC hL0 y2
            go_wp2
            go_roundw
            case rel => exact ⟨j + 1, HLT.out, by go_num, by rw [HM2.out]; exact HOK2.out, by rw [HM2.out]; exact HO.out, HC4.out⟩
            case measure => exact fit_meas j M HLT.out
      · have hidx : j * L = A.e.length := by
          rw [← HP.out.1]
          by_cases h : j = M
          · rw [h]
          · have : L = 0 := by omega
            rw [this, Nat.mul_zero, Nat.mul_zero]
        rw [hidx] at hok hown
        have HSL := Lib.hid HP.out.2.2
        clear hidx
        by_cases hlt : j < M
        · have hlt' : decide ((j : Int) < (M : Int)) = true := decide_eq_true (by omega)
          have hl0' : decide ((0 : Int) < (L : Int)) = false := decide_eq_false (by omega)
          have hl0'' : decide (0 < L) = false := decide_eq_false (by omega)
          have hlt2 : decide (j < M) = true := decide_eq_true hlt
          have hl3 : ¬ 0 < L := by omega
          clear hin hj
          have hof := r11of_any 1 _ _ A.s (tabV A.e.length el) wr (HS.out.1.fr (HC3.out.tr hC)) hown.ls (by rw [HNN.out]; exact HSL.out) (by rw [tabV_length]; have := HN4.out; omega)
          unfold GaveA OwnA at hof
          have y1 := hC.cell HY.out.1 id
          obtain ⟨al, Ll, cl, rfl, hL0⟩ := own_nm hown
          have HCr := Lib.hid hC
          have HOK := Lib.hid hok
          clear hok hown hC hL0
          go_wp2_with fail
          refine hof.mono ?_
          clear hof
          rintro e9 w5 ⟨v5, rfl, ⟨vs5, ve5, rfl, ho1, ho2⟩, hC5⟩
          obtain ⟨a1, c1, rfl⟩ := own_name ho1
          obtain ⟨a2, c2, rfl⟩ := own_name ho2
          have HLT := Lib.hid (Nat.lt_of_lt_of_le HRB.out (show gb ≤ wr.heap.size from Nat.le_trans HGB2.out HCr.out.size))
          have HO1 := Lib.hid ho1
          have HO2 := Lib.hid ho2
          obtain ⟨z0, z1, z2, f0, f1, f2⟩ := HB3.out.fr (HCr.out.tr hC5)
          obtain ⟨⟨g0, g1⟩, g2⟩ := set3_cells (.int .i64 1) (.slice a1 A.s.length c1) (.slice a2 (tabV A.e.length el).length c2) z0 z1 z2
          have HC5 := Lib.hid (HC3.out.tr (HCr.out.tr hC5))
          clear hC5 ho1 ho2 y1
          go_wp2
          simp [bodyPost, results, Try.results32, go_sem, g0, g1, g2]
          rw [HAA.out, HE.out, show mdE A.e.length el = 0 from HOK.out, if_pos rfl]
          exact leaveAE HO1.out HO2.out (Nat.le_succ _) HLT.out HLT.out HC5.out
        · have hlt' : decide ((j : Int) < (M : Int)) = false := decide_eq_false (by omega)
          have hlt2 : decide (j < M) = false := decide_eq_false hlt
          clear hin hj
          have hof := r11of_any 1 _ _ A.s (tabV A.e.length el) wr (HS.out.1.fr (HC3.out.tr hC)) hown.ls (by rw [HNN.out]; exact HSL.out) (by rw [tabV_length]; have := HN4.out; omega)
          unfold GaveA OwnA at hof
          have y1 := hC.cell HY.out.1 id
          obtain ⟨al, Ll, cl, rfl, hL0⟩ := own_nm hown
          have HCr := Lib.hid hC
          have HOK := Lib.hid hok
          clear hok hown hC hL0
          go_wp2_with fail
          refine hof.mono ?_
          clear hof
          rintro e9 w5 ⟨v5, rfl, ⟨vs5, ve5, rfl, ho1, ho2⟩, hC5⟩
          obtain ⟨a1, c1, rfl⟩ := own_name ho1
          obtain ⟨a2, c2, rfl⟩ := own_name ho2
          have HLT := Lib.hid (Nat.lt_of_lt_of_le HRB.out (show gb ≤ wr.heap.size from Nat.le_trans HGB2.out HCr.out.size))
          have HO1 := Lib.hid ho1
          have HO2 := Lib.hid ho2
          obtain ⟨z0, z1, z2, f0, f1, f2⟩ := HB3.out.fr (HCr.out.tr hC5)
          obtain ⟨⟨g0, g1⟩, g2⟩ := set3_cells (.int .i64 1) (.slice a1 A.s.length c1) (.slice a2 (tabV A.e.length el).length c2) z0 z1 z2
          have HC5 := Lib.hid (HC3.out.tr (HCr.out.tr hC5))
          clear hC5 ho1 ho2 y1
          go_wp2
          simp [bodyPost, results, Try.results32, go_sem, g0, g1, g2]
          rw [HAA.out, HE.out, show mdE A.e.length el = 0 from HOK.out, if_pos rfl]
          exact leaveAE HO1.out HO2.out (Nat.le_succ _) HLT.out HLT.out HC5.out
  · obtain ⟨n, hn⟩ : ∃ n, fineE f A = n := ⟨_, rfl⟩
    have HR := Lib.hid (show scnE f A = n ∧ scnA f A = noA from ⟨by unfold scnE; rw [if_neg hz, hn], by unfold scnA scnE; rw [if_neg hz, if_neg hz]⟩)
    have hzn : (n != 0) = true := by rw [← hn]; exact bne_iff_ne.2 hz
    rw [hn] at hfi
    clear hz hn
    go_enter Try.func32, Try.ntmps32
    go_wp2_with fail
    refine hfi.mono ?_
    clear hfi
    rintro e9 w1 ⟨rfl, hC1⟩
    obtain ⟨z0, z1, z2, f0, f1, f2⟩ := HB0.out.fr hC1
    obtain ⟨⟨g0, g1⟩, g2⟩ := set3_cells (.int .i64 0) (.slice none 0 0) (.slice none 0 0) z0 z1 z2
    have HC1 := Lib.hid (HC.out.tr hC1)
    clear hC1 y0 y1 y2
    go_wp2
    simp [bodyPost, results, Try.results32, go_sem, g0, g1, g2]
    rw [HR.out.1, HR.out.2]
    exact leaveNo (Nat.le_succ _) HC1.out
end Go.Proofs.Ytjmlekdgipinfaa
