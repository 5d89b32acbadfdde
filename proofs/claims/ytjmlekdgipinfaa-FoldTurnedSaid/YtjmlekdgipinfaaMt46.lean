/- fold: what stands behind a place of an inner product. -/
import Derived.Test.YtjmlekdgipinfaaMt45
namespace Go.Proofs.Ytjmlekdgipinfaa
open Go.RowKit Go.Shelf

theorem chg_drewN' {w w' : World} {n : Nat} (h : Chg (fun _ => False) w w') : Chg (fun _ => False) w (w'.drewN n) := h.drewN n
def iaN (A : Ar) (C L n k : Nat) : Nat := if A.s = [] then 0 else n / C * L + k
def ibN (B : Ar) (C n k : Nat) : Nat := if B.s = [] then 0 else k * C + n % C
/-- The two numbers of a place, one pair after the other. -/
def inQ (p : Int → Int → Int × Int) (A B : Ar) (C L n k : Nat) : Int × Int := p (A.e.getD (iaN A C L n k) 0) (B.e.getD (ibN B C n k) 0)
def inP (f : Int) (p : Int → Int → Int × Int) (A B : Ar) (C L n : Nat) : Int × Int := if fstE (tabP L (inQ p A B C L n)) = 0 then rwP f (tabV L (inQ p A B C L n)) else (0, fstE (tabP L (inQ p A B C L n)))
set_option maxRecDepth 100000 in
set_option maxHeartbeats 4000000 in
theorem inner1_any (f : Int) (p : Int → Int → Int × Int) (vf va vb : Value) (A B : Ar) (sa sb : Option Addr) (csa csb C L n b11 b15 ba bb b13 b4 : Nat) (w : World) (hF : Fn2 w vf p) (hX : Ls w va A.e) (hY : Ls w vb B.e)
    (c11 : w.cell? ⟨b11, 0, none⟩ = some (.int .i64 L)) (c15 : w.cell? ⟨b15, 0, none⟩ = some (.int .i64 C)) (ca1 : w.cell? ⟨ba, 1, none⟩ = some (.slice sa A.s.length csa)) (ca2 : w.cell? ⟨ba, 2, none⟩ = some va)
    (cb1 : w.cell? ⟨bb, 1, none⟩ = some (.slice sb B.s.length csb)) (cb2 : w.cell? ⟨bb, 2, none⟩ = some vb) (c13 : w.cell? ⟨b13, 0, none⟩ = some vf) (c4 : w.cell? ⟨b4, 0, none⟩ = some (.int .i64 f))
    (hC : 0 < C) (hb : C ≤ 1000000 ∧ L ≤ 1000000 ∧ n ≤ 1000000) (hIx : ∀ x ∈ A.e, In x) (hIy : ∀ x ∈ B.e, In x) (hpI : ∀ x y, In x → In y → In (p x y).1) (hix : ∀ k, k < L → iaN A C L n k < A.e.length ∧ ibN B C n k < B.e.length) :
    Calls Try.prog 53 #[.int .i64 n, .pointer (some ⟨b11, 0, none⟩), .pointer (some ⟨b15, 0, none⟩), .pointer (some ⟨ba, 0, none⟩), .pointer (some ⟨bb, 0, none⟩), .pointer (some ⟨b13, 0, none⟩), .pointer (some ⟨b4, 0, none⟩)] w (GaveP w (inP f p A B C L n).1 (inP f p A B C L n).2) := by
  obtain ⟨i0, hi, hz0, hz1, hz2⟩ := info_parts info_long
  obtain ⟨gf, lb, rfl, egf, hcf⟩ := hF
  obtain ⟨el, hel⟩ : ∃ el, inQ p A B C L n = el := ⟨_, rfl⟩
  have HEL := Lib.hid (show ∀ k, k < L → ∃ (h1 : iaN A C L n k < A.e.length) (h2 : ibN B C n k < B.e.length), el k = p (A.e[iaN A C L n k]) (B.e[ibN B C n k]) from fun k hk => by
    obtain ⟨h1, h2⟩ := hix k hk
    refine ⟨h1, h2, ?_⟩
    rw [← hel]
    unfold inQ
    simp [h1, h2])
  have HIN := Lib.hid (And.intro hIx hIy)
  have HIP := Lib.hid (show ∀ x ∈ tabV L el, In x from by
    intro x hx
    unfold tabV tabP at hx
    rw [List.map_map, List.mem_map] at hx
    obtain ⟨k, hk, rfl⟩ := hx
    obtain ⟨h1, h2, h3⟩ := HEL.out k (List.mem_range.1 hk)
    show In (el k).1
    rw [h3]
    exact hpI _ _ (hIx _ (List.getElem_mem h1)) (hIy _ (List.getElem_mem h2)))
  obtain ⟨res, hres⟩ : ∃ r, inP f p A B C L n = r := ⟨_, rfl⟩
  have HRES := Lib.hid (show (fstE (tabP L el) = 0 → res = rwP f (tabV L el)) ∧ (fstE (tabP L el) ≠ 0 → res = (0, fstE (tabP L el))) from by
    rw [← hres]
    unfold inP
    rw [hel]
    exact ⟨fun h => if_pos h, fun h => if_neg h⟩)
  rw [hres]
  have HCF := Lib.hid hcf
  have HX := Lib.hid hX
  have HY := Lib.hid hY
  have HB := Lib.hid (And.intro hC hb)
  clear hcf hX hY hIx hIy hpI hix hC hb hel hres
  go_enter Try.func53, Try.ntmps53
  go_wp2
  go_loopw [10, 17] (fun v vk wr => ∃ k : Nat, k ≤ L ∧ vk = .int .i64 k ∧ fstE (tabP k el) = 0 ∧ Own wr w.heap.size 2 v (tabV k el) ∧ Chg (fun _ => False) w wr) (fun _ vk _ => L - (intOf vk).toNat)
  case atStart => exact ⟨0, Nat.zero_le _, rfl, rfl, Own.nil _ _ _, Chg.refl _ _⟩
  case round =>
    obtain ⟨k, hk, rfl, hfe, hO, hCr⟩ := hrel
    replace c11 := hCr.cell c11 id
    replace c15 := hCr.cell c15 id
    replace ca1 := hCr.cell ca1 id
    replace ca2 := hCr.cell ca2 id
    replace cb1 := hCr.cell cb1 id
    replace cb2 := hCr.cell cb2 id
    replace c13 := hCr.cell c13 id
    replace c4 := hCr.cell c4 id
    have HCR := Lib.hid hCr
    have HO := Lib.hid hO
    obtain ⟨al, Ll, cl, rfl, hL⟩ := own_nm hO
    by_cases hlt : k < L
    · obtain ⟨h1, h2, hek⟩ := HEL.out k hlt
      obtain ⟨q, hq⟩ : ∃ q, n / C = q := ⟨_, rfl⟩
      obtain ⟨r, hr⟩ : ∃ r, n % C = r := ⟨_, rfl⟩
      obtain ⟨u, hu⟩ : ∃ u, q * L = u := ⟨_, rfl⟩
      obtain ⟨t, ht⟩ : ∃ t, k * C = t := ⟨_, rfl⟩
      obtain ⟨iv, hiv⟩ : ∃ iv, u + k = iv := ⟨_, rfl⟩
      obtain ⟨jv, hjv⟩ : ∃ jv, t + r = jv := ⟨_, rfl⟩
      have hia : iaN A C L n k = if A.s = [] then 0 else iv := by unfold iaN; rw [hq, hu, hiv]
      have hib : ibN B C n k = if B.s = [] then 0 else jv := by unfold ibN; rw [hr, ht, hjv]
      have hB := HB.out
      have hrC : r < C := by rw [← hr]; exact Nat.mod_lt _ hB.1
      have hqn : q ≤ n := by rw [← hq]; exact Nat.div_le_self _ _
      have hu2 : u ≤ 1000000 * 1000000 := by rw [← hu]; exact Nat.mul_le_mul (by omega) hB.2.2.1
      have ht2 : t ≤ 1000000 * 1000000 := by rw [← ht]; exact Nat.mul_le_mul (by omega) hB.2.1
      have HAR := Lib.hid (show Int.tdiv (n : Int) (C : Int) = (q : Int) ∧ Int.tmod (n : Int) (C : Int) = (r : Int) ∧ IntKind.i64.wrap (q : Int) = (q : Int) ∧ IntKind.i64.wrap (r : Int) = (r : Int) ∧ IntKind.i64.wrap ((q : Int) * (L : Int)) = (u : Int) ∧ IntKind.i64.wrap ((u : Int) + (k : Int)) = (iv : Int) ∧ IntKind.i64.wrap ((k : Int) * (C : Int)) = (t : Int) ∧ IntKind.i64.wrap ((t : Int) + (r : Int)) = (jv : Int) ∧ ¬ (C : Int) = 0 ∧ ¬ C = 0 from
        ⟨by rw [Int.tdiv_eq_ediv_of_nonneg (by omega), ← hq]; exact (Int.natCast_ediv _ _).symm,
         by rw [Int.tmod_eq_emod_of_nonneg (by omega), ← hr]; exact (Int.natCast_emod _ _).symm,
         IntWalk.i64_in _ (by omega), IntWalk.i64_in _ (by omega),
         by rw [← Int.natCast_mul, hu]; exact IntWalk.i64_in _ (by omega),
         by rw [← Int.natCast_add, hiv]; exact IntWalk.i64_in _ (by omega),
         by rw [← Int.natCast_mul, ht]; exact IntWalk.i64_in _ (by omega),
         by rw [← Int.natCast_add, hjv]; exact IntWalk.i64_in _ (by omega), by omega, by omega⟩)
      have hkw : IntKind.i64.wrap ((k : Int) + 1) = (k : Int) + 1 := IntWalk.i64_in _ (by omega)
      have hlt' : (k : Int) < (L : Int) := by omega
      have hIx := HIN.out.1 _ (List.getElem_mem h1)
      have hIy := HIN.out.2 _ (List.getElem_mem h2)
      obtain ⟨xa, oa, cxa, e1, hx⟩ := (HX.out.fr hCr).at h1
      obtain ⟨xb, ob, cxb, e2, hy⟩ := (HY.out.fr hCr).at h2
      subst e1 e2
      obtain ⟨x, hxx⟩ : ∃ x, A.e[iaN A C L n k] = x := ⟨_, rfl⟩
      obtain ⟨y, hyy⟩ : ∃ y, B.e[ibN B C n k] = y := ⟨_, rfl⟩
      rw [hxx] at hx hek hIx
      rw [hyy] at hy hek hIy
      rw [hia] at hx h1
      rw [hib] at hy h2
      have hcc := HCF.out x y hIx hIy
      obtain ⟨⟨r1, r2⟩, hr12⟩ : ∃ r, p x y = r := ⟨_, rfl⟩
      rw [hr12] at hcc hek
      unfold GaveP at hcc
      have HCC := Lib.hid hcc
      obtain ⟨xs, hxs⟩ : ∃ xs, tabV k el = xs := ⟨_, rfl⟩
      rw [hxs] at hO HO
      have HXL := Lib.hid (show xs.length ≤ 1000000 - 1 by rw [← hxs, tabV_length]; omega)
      have HN0 := Lib.hid (show (r2 = 0 → fstE (tabP (k + 1) el) = 0) ∧ tabV (k + 1) el = xs ++ [r1] ∧ (r2 ≠ 0 → res = (0, r2)) from by
        have h8 := fstE_succ hfe
        rw [hek] at h8
        refine ⟨fun h => h8.trans h, by rw [tabV_succ, hxs, hek], fun h => ?_⟩
        have h9 := fstE_all (n := L) (k := k + 1) (el := el) hlt (by rw [h8]; exact h)
        rw [h8] at h9
        simp only at h9
        rw [HRES.out.2 (by rw [h9]; exact h), h9])
      have HK := Lib.hid hlt
      clear hek hxx hyy hIx hIy hcc hr12 hxs hia hib hB hrC hqn hu2 ht2 hq hr hu ht hiv hjv hfe hO hCr hk hlt
      by_cases za : A.s = []
      · rw [if_pos za] at hx h1
        rw [Nat.add_zero] at hx
        have b1 : ((A.s.length : Int) == 0) = true := by rw [za]; rfl
        by_cases zb : B.s = []
        · rw [if_pos zb] at hy h2
          rw [Nat.add_zero] at hy
          have b2 : ((B.s.length : Int) == 0) = true := by rw [zb]; rfl
          clear za zb
          have KP := Lib.hid (show ∀ w', Chg (fun _ => False) wr w' → (Chg (fun _ => False) wr w' ∧ w'.cell? ⟨b13, 0, none⟩ = some (.func (.func gf) #[] lb) ∧ w'.cell? ⟨ba, 2, none⟩ = some (.slice (some ⟨xa, oa, none⟩) A.e.length cxa) ∧ w'.cell? ⟨bb, 2, none⟩ = some (.slice (some ⟨xb, ob, none⟩) B.e.length cxb) ∧ w'.cell? _ = some (.int .i64 x) ∧ w'.cell? _ = some (.int .i64 y)) from fun w' h => ⟨h, h.cell c13 id, h.cell ca2 id, h.cell cb2 id, h.cell hx id, h.cell hy id⟩)
          obtain ⟨d1, d2, d3, d4, d5, d6, d7, d8, d9, d10⟩ := HAR.out
          go_wp2
          go_quiet (fail)
          go_wp2
          clear d1 d2 d3 d4 d5 d6 d7 d8 d9 d10
          go_region_held3 (fun w' => (Chg (fun _ => False) wr w' ∧ w'.cell? ⟨b13, 0, none⟩ = some (.func (.func gf) #[] lb) ∧ w'.cell? ⟨ba, 2, none⟩ = some (.slice (some ⟨xa, oa, none⟩) A.e.length cxa) ∧ w'.cell? ⟨bb, 2, none⟩ = some (.slice (some ⟨xb, ob, none⟩) B.e.length cxb) ∧ w'.cell? ⟨xa, oa, none⟩ = some (.int .i64 x) ∧ w'.cell? ⟨xb, ob, none⟩ = some (.int .i64 y))) ((refine KP.out _ ?_; repeat (first | (with_reducible exact Chg.refl _ _) | (with_reducible refine chg_drew' ?_) | (with_reducible refine chg_drewN' ?_) | (with_reducible refine Chg.tr ?_ hCP)))) (first | ((with_reducible refine (HCC.out _ ?_).mono ?_); (repeat (first | (with_reducible exact HCR.out) | (with_reducible refine chg_drew' ?_) | (with_reducible refine chg_drewN' ?_))); rintro e9 wP ⟨rfl, hCP⟩))
          all_goals
            rename_i hHd
            have HD := Lib.hid (HCR.out.tr hHd.1)
            have HO2 := Lib.hid (HO.out.fr hHd.1)
            clear hHd hCP hx hy c13 ca2 cb2 ca1 cb1
            by_cases he : r2 = 0
            · subst he
              go_wp2_with (at_builtin; refine wpList_append_own_any rfl (.tmp 60) (.tmp 62) 23 rfl w.heap.size 2 i0 (.int .i64 0) 1 8 Try.underlying23 hi hz0 hz1 hz2 rfl (by decide) (.slice al Ll cl) xs.length (xs.map I) rfl (HO2.out.alloc _) (some ⟨wP.heap.size, 0, none⟩) 1 1 [.int .i64 r1] rfl rfl (fun j u hu => ⟨_, rfl, cell_one_new wP _ _ j u hu⟩) (by simp [Value.oneCell']) (by have := HXL.out; unfold maxLen; omega) (by have := HXL.out; omega) (by have := HD.out.size; simp; omega) ?_; intro v2 w4 hown2 hg2 _ hO2; have hC2 : Chg (fun _ => False) w w4 := (HD.out.alloc _).grown hg2 (fun k e => .inr (HO2.out.lt k e).1); have O2 := Lib.hid (show Own w4 w.heap.size 2 v2 (xs ++ [r1]) from by unfold Own; rw [List.length_append, List.map_append]; exact hown2); obtain ⟨al2, L2, cl2, rfl, hL2⟩ := own_nm O2.out)
              go_roundw
              case rel => exact ⟨k + 1, HK.out, by go_num, HN0.out.1 (by first | rfl | trivial), by rw [HN0.out.2.1]; exact O2.out, hC2⟩
              case measure => exact fit_meas k L HK.out
            · have e2 : (r2 != 0) = true := bne_iff_ne.2 he
              have HR := Lib.hid (HN0.out.2.2 he)
              clear he
              go_wp2
              go_ret2
              rw [HR.out]
              exact ⟨rfl, HD.out⟩
        · rw [if_neg zb] at hy h2
          have b2 : ((B.s.length : Int) == 0) = false := beq_eq_false_iff_ne.2 (by have := List.length_pos_iff.2 zb; omega)
          have j0 : (0 : Int) ≤ (jv : Int) := by omega
          have j1 : (jv : Int) < (B.e.length : Int) := by omega
          clear za zb h2
          have KP := Lib.hid (show ∀ w', Chg (fun _ => False) wr w' → (Chg (fun _ => False) wr w' ∧ w'.cell? ⟨b13, 0, none⟩ = some (.func (.func gf) #[] lb) ∧ w'.cell? ⟨ba, 2, none⟩ = some (.slice (some ⟨xa, oa, none⟩) A.e.length cxa) ∧ w'.cell? ⟨bb, 2, none⟩ = some (.slice (some ⟨xb, ob, none⟩) B.e.length cxb) ∧ w'.cell? _ = some (.int .i64 x) ∧ w'.cell? _ = some (.int .i64 y)) from fun w' h => ⟨h, h.cell c13 id, h.cell ca2 id, h.cell cb2 id, h.cell hx id, h.cell hy id⟩)
          obtain ⟨d1, d2, d3, d4, d5, d6, d7, d8, d9, d10⟩ := HAR.out
          go_wp2
          go_quiet (fail)
          go_wp2
          clear d1 d2 d3 d4 d5 d6 d7 d8 d9 d10
          go_region_held3 (fun w' => (Chg (fun _ => False) wr w' ∧ w'.cell? ⟨b13, 0, none⟩ = some (.func (.func gf) #[] lb) ∧ w'.cell? ⟨ba, 2, none⟩ = some (.slice (some ⟨xa, oa, none⟩) A.e.length cxa) ∧ w'.cell? ⟨bb, 2, none⟩ = some (.slice (some ⟨xb, ob, none⟩) B.e.length cxb) ∧ w'.cell? ⟨xa, oa, none⟩ = some (.int .i64 x) ∧ w'.cell? ⟨xb, ob + jv, none⟩ = some (.int .i64 y))) ((refine KP.out _ ?_; repeat (first | (with_reducible exact Chg.refl _ _) | (with_reducible refine chg_drew' ?_) | (with_reducible refine chg_drewN' ?_) | (with_reducible refine Chg.tr ?_ hCP)))) (first | ((with_reducible refine (HCC.out _ ?_).mono ?_); (repeat (first | (with_reducible exact HCR.out) | (with_reducible refine chg_drew' ?_) | (with_reducible refine chg_drewN' ?_))); rintro e9 wP ⟨rfl, hCP⟩))
          all_goals
            rename_i hHd
            have HD := Lib.hid (HCR.out.tr hHd.1)
            have HO2 := Lib.hid (HO.out.fr hHd.1)
            clear hHd hCP hx hy c13 ca2 cb2 ca1 cb1
            by_cases he : r2 = 0
            · subst he
              go_wp2_with (at_builtin; refine wpList_append_own_any rfl (.tmp 60) (.tmp 62) 23 rfl w.heap.size 2 i0 (.int .i64 0) 1 8 Try.underlying23 hi hz0 hz1 hz2 rfl (by decide) (.slice al Ll cl) xs.length (xs.map I) rfl (HO2.out.alloc _) (some ⟨wP.heap.size, 0, none⟩) 1 1 [.int .i64 r1] rfl rfl (fun j u hu => ⟨_, rfl, cell_one_new wP _ _ j u hu⟩) (by simp [Value.oneCell']) (by have := HXL.out; unfold maxLen; omega) (by have := HXL.out; omega) (by have := HD.out.size; simp; omega) ?_; intro v2 w4 hown2 hg2 _ hO2; have hC2 : Chg (fun _ => False) w w4 := (HD.out.alloc _).grown hg2 (fun k e => .inr (HO2.out.lt k e).1); have O2 := Lib.hid (show Own w4 w.heap.size 2 v2 (xs ++ [r1]) from by unfold Own; rw [List.length_append, List.map_append]; exact hown2); obtain ⟨al2, L2, cl2, rfl, hL2⟩ := own_nm O2.out)
              go_roundw
              case rel => exact ⟨k + 1, HK.out, by go_num, HN0.out.1 (by first | rfl | trivial), by rw [HN0.out.2.1]; exact O2.out, hC2⟩
              case measure => exact fit_meas k L HK.out
            · have e2 : (r2 != 0) = true := bne_iff_ne.2 he
              have HR := Lib.hid (HN0.out.2.2 he)
              clear he
              go_wp2
              go_ret2
              rw [HR.out]
              exact ⟨rfl, HD.out⟩
      · rw [if_neg za] at hx h1
        have b1 : ((A.s.length : Int) == 0) = false := beq_eq_false_iff_ne.2 (by have := List.length_pos_iff.2 za; omega)
        have i0' : (0 : Int) ≤ (iv : Int) := by omega
        have i1' : (iv : Int) < (A.e.length : Int) := by omega
        clear h1
        by_cases zb : B.s = []
        · rw [if_pos zb] at hy h2
          rw [Nat.add_zero] at hy
          have b2 : ((B.s.length : Int) == 0) = true := by rw [zb]; rfl
          clear za zb
          have KP := Lib.hid (show ∀ w', Chg (fun _ => False) wr w' → (Chg (fun _ => False) wr w' ∧ w'.cell? ⟨b13, 0, none⟩ = some (.func (.func gf) #[] lb) ∧ w'.cell? ⟨ba, 2, none⟩ = some (.slice (some ⟨xa, oa, none⟩) A.e.length cxa) ∧ w'.cell? ⟨bb, 2, none⟩ = some (.slice (some ⟨xb, ob, none⟩) B.e.length cxb) ∧ w'.cell? _ = some (.int .i64 x) ∧ w'.cell? _ = some (.int .i64 y)) from fun w' h => ⟨h, h.cell c13 id, h.cell ca2 id, h.cell cb2 id, h.cell hx id, h.cell hy id⟩)
          obtain ⟨d1, d2, d3, d4, d5, d6, d7, d8, d9, d10⟩ := HAR.out
          go_wp2
          go_quiet (fail)
          go_wp2
          clear d1 d2 d3 d4 d5 d6 d7 d8 d9 d10
          go_region_held3 (fun w' => (Chg (fun _ => False) wr w' ∧ w'.cell? ⟨b13, 0, none⟩ = some (.func (.func gf) #[] lb) ∧ w'.cell? ⟨ba, 2, none⟩ = some (.slice (some ⟨xa, oa, none⟩) A.e.length cxa) ∧ w'.cell? ⟨bb, 2, none⟩ = some (.slice (some ⟨xb, ob, none⟩) B.e.length cxb) ∧ w'.cell? ⟨xa, oa + iv, none⟩ = some (.int .i64 x) ∧ w'.cell? ⟨xb, ob, none⟩ = some (.int .i64 y))) ((refine KP.out _ ?_; repeat (first | (with_reducible exact Chg.refl _ _) | (with_reducible refine chg_drew' ?_) | (with_reducible refine chg_drewN' ?_) | (with_reducible refine Chg.tr ?_ hCP)))) (first | ((with_reducible refine (HCC.out _ ?_).mono ?_); (repeat (first | (with_reducible exact HCR.out) | (with_reducible refine chg_drew' ?_) | (with_reducible refine chg_drewN' ?_))); rintro e9 wP ⟨rfl, hCP⟩))
          all_goals
            rename_i hHd
            have HD := Lib.hid (HCR.out.tr hHd.1)
            have HO2 := Lib.hid (HO.out.fr hHd.1)
            clear hHd hCP hx hy c13 ca2 cb2 ca1 cb1
            by_cases he : r2 = 0
            · subst he
              go_wp2_with (at_builtin; refine wpList_append_own_any rfl (.tmp 60) (.tmp 62) 23 rfl w.heap.size 2 i0 (.int .i64 0) 1 8 Try.underlying23 hi hz0 hz1 hz2 rfl (by decide) (.slice al Ll cl) xs.length (xs.map I) rfl (HO2.out.alloc _) (some ⟨wP.heap.size, 0, none⟩) 1 1 [.int .i64 r1] rfl rfl (fun j u hu => ⟨_, rfl, cell_one_new wP _ _ j u hu⟩) (by simp [Value.oneCell']) (by have := HXL.out; unfold maxLen; omega) (by have := HXL.out; omega) (by have := HD.out.size; simp; omega) ?_; intro v2 w4 hown2 hg2 _ hO2; have hC2 : Chg (fun _ => False) w w4 := (HD.out.alloc _).grown hg2 (fun k e => .inr (HO2.out.lt k e).1); have O2 := Lib.hid (show Own w4 w.heap.size 2 v2 (xs ++ [r1]) from by unfold Own; rw [List.length_append, List.map_append]; exact hown2); obtain ⟨al2, L2, cl2, rfl, hL2⟩ := own_nm O2.out)
              go_roundw
              case rel => exact ⟨k + 1, HK.out, by go_num, HN0.out.1 (by first | rfl | trivial), by rw [HN0.out.2.1]; exact O2.out, hC2⟩
              case measure => exact fit_meas k L HK.out
            · have e2 : (r2 != 0) = true := bne_iff_ne.2 he
              have HR := Lib.hid (HN0.out.2.2 he)
              clear he
              go_wp2
              go_ret2
              rw [HR.out]
              exact ⟨rfl, HD.out⟩
        · rw [if_neg zb] at hy h2
          have b2 : ((B.s.length : Int) == 0) = false := beq_eq_false_iff_ne.2 (by have := List.length_pos_iff.2 zb; omega)
          have j0 : (0 : Int) ≤ (jv : Int) := by omega
          have j1 : (jv : Int) < (B.e.length : Int) := by omega
          clear za zb h2
          have KP := Lib.hid (show ∀ w', Chg (fun _ => False) wr w' → (Chg (fun _ => False) wr w' ∧ w'.cell? ⟨b13, 0, none⟩ = some (.func (.func gf) #[] lb) ∧ w'.cell? ⟨ba, 2, none⟩ = some (.slice (some ⟨xa, oa, none⟩) A.e.length cxa) ∧ w'.cell? ⟨bb, 2, none⟩ = some (.slice (some ⟨xb, ob, none⟩) B.e.length cxb) ∧ w'.cell? _ = some (.int .i64 x) ∧ w'.cell? _ = some (.int .i64 y)) from fun w' h => ⟨h, h.cell c13 id, h.cell ca2 id, h.cell cb2 id, h.cell hx id, h.cell hy id⟩)
          obtain ⟨d1, d2, d3, d4, d5, d6, d7, d8, d9, d10⟩ := HAR.out
          go_wp2
          go_quiet (fail)
          go_wp2
          clear d1 d2 d3 d4 d5 d6 d7 d8 d9 d10
          go_region_held3 (fun w' => (Chg (fun _ => False) wr w' ∧ w'.cell? ⟨b13, 0, none⟩ = some (.func (.func gf) #[] lb) ∧ w'.cell? ⟨ba, 2, none⟩ = some (.slice (some ⟨xa, oa, none⟩) A.e.length cxa) ∧ w'.cell? ⟨bb, 2, none⟩ = some (.slice (some ⟨xb, ob, none⟩) B.e.length cxb) ∧ w'.cell? ⟨xa, oa + iv, none⟩ = some (.int .i64 x) ∧ w'.cell? ⟨xb, ob + jv, none⟩ = some (.int .i64 y))) ((refine KP.out _ ?_; repeat (first | (with_reducible exact Chg.refl _ _) | (with_reducible refine chg_drew' ?_) | (with_reducible refine chg_drewN' ?_) | (with_reducible refine Chg.tr ?_ hCP)))) (first | ((with_reducible refine (HCC.out _ ?_).mono ?_); (repeat (first | (with_reducible exact HCR.out) | (with_reducible refine chg_drew' ?_) | (with_reducible refine chg_drewN' ?_))); rintro e9 wP ⟨rfl, hCP⟩))
          all_goals
            rename_i hHd
            have HD := Lib.hid (HCR.out.tr hHd.1)
            have HO2 := Lib.hid (HO.out.fr hHd.1)
            clear hHd hCP hx hy c13 ca2 cb2 ca1 cb1
            by_cases he : r2 = 0
            · subst he
              go_wp2_with (at_builtin; refine wpList_append_own_any rfl (.tmp 60) (.tmp 62) 23 rfl w.heap.size 2 i0 (.int .i64 0) 1 8 Try.underlying23 hi hz0 hz1 hz2 rfl (by decide) (.slice al Ll cl) xs.length (xs.map I) rfl (HO2.out.alloc _) (some ⟨wP.heap.size, 0, none⟩) 1 1 [.int .i64 r1] rfl rfl (fun j u hu => ⟨_, rfl, cell_one_new wP _ _ j u hu⟩) (by simp [Value.oneCell']) (by have := HXL.out; unfold maxLen; omega) (by have := HXL.out; omega) (by have := HD.out.size; simp; omega) ?_; intro v2 w4 hown2 hg2 _ hO2; have hC2 : Chg (fun _ => False) w w4 := (HD.out.alloc _).grown hg2 (fun k e => .inr (HO2.out.lt k e).1); have O2 := Lib.hid (show Own w4 w.heap.size 2 v2 (xs ++ [r1]) from by unfold Own; rw [List.length_append, List.map_append]; exact hown2); obtain ⟨al2, L2, cl2, rfl, hL2⟩ := own_nm O2.out)
              go_roundw
              case rel => exact ⟨k + 1, HK.out, by go_num, HN0.out.1 (by first | rfl | trivial), by rw [HN0.out.2.1]; exact O2.out, hC2⟩
              case measure => exact fit_meas k L HK.out
            · have e2 : (r2 != 0) = true := bne_iff_ne.2 he
              have HR := Lib.hid (HN0.out.2.2 he)
              clear he
              go_wp2
              go_ret2
              rw [HR.out]
              exact ⟨rfl, HD.out⟩
    · obtain rfl : k = L := by omega
      have hd1 : decide ((k : Int) < (k : Int)) = false := decide_eq_false (by omega)
      have hrow := row_any f _ _ wr HO.out.ls (by rw [tabV_length]; have := HB.out.2.2.1; omega) HIP.out
      rw [← HRES.out.1 hfe] at hrow
      clear hfe hO hCr hlt hk
      go_wp2_with fail
      refine hrow.mono ?_
      clear hrow
      rintro e9 w2 ⟨rfl, hC2⟩
      go_wp2
      go_ret2
      exact ⟨rfl, HCR.out.tr hC2⟩
end Go.Proofs.Ytjmlekdgipinfaa
