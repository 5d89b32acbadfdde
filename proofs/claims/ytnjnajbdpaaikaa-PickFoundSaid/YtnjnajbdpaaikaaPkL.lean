/- pick: the places that compress brings. -/
import Derived.Test.YtnjnajbdpaaikaaPkK
import Derived.Test.YtnjnajbdpaaikaaArH
namespace Go.Proofs.Ytnjnajbdpaaikaa
open Go.RowKit Go.Shelf

def cpR (c : List Int) : List Int := if sumL c ≤ 4096 then cpy c 0 else []
def GaveCo (w : World) (c : List Int) (e : Ending) (w' : World) : Prop := ∃ v', e = .returned (.tuple #[v', .bool (decide (sumL c ≤ 4096))]) ∧ Own w' w.heap.size 3 v' (cpR c) ∧ Chg (fun _ => False) w w'
theorem sumL_take {c : List Int} (h : ∀ n ∈ c, 0 ≤ n) (j : Nat) : sumL (c.take j) ≤ sumL c := by
  have e := sumL_app (c.take j) (c.drop j)
  rw [List.take_append_drop] at e
  have := sumL_nonneg (l := c.drop j) (fun n hn => h n (List.mem_of_mem_drop hn))
  omega
theorem sumL_succ {c : List Int} {j : Nat} (h : j < c.length) : sumL (c.take (j + 1)) = sumL (c.take j) + c[j] := by
  rw [List.take_succ_eq_append_getElem h, sumL_app]
  simp [sumL]
theorem cpy_succ {c : List Int} {j : Nat} (h : j < c.length) : cpy (c.take (j + 1)) 0 = cpy (c.take j) 0 ++ List.replicate (c[j]).toNat (j : Int) := by
  rw [List.take_succ_eq_append_getElem h, cpy_app, List.length_take, Nat.min_eq_left (by omega)]
  simp [cpy]
set_option maxRecDepth 100000 in
set_option maxHeartbeats 2000000 in
theorem copies_all (x : Int) (b o c r : Nat) (long : Nat) (w : World) (hr : 0 < r) (hx : 0 ≤ x) (hc : w.cell? ⟨b, o, none⟩ = some (.int .i64 x)) (hl : long ≤ 1000000) : Calls Try.prog 62 #[.slice (some ⟨b, o, none⟩) r c, .bool true, .int .i64 (long : Int)] w (GaveCo w (List.replicate long x)) := by
  have hr1 : (0 : Int) < (r : Int) := by omega
  obtain ⟨i0, hi, hz0, hz1, hz2⟩ := info_parts info_int
  obtain ⟨cs, hcs⟩ : ∃ cs, List.replicate long x = cs := ⟨_, rfl⟩
  have HCL := Lib.hid (show cs.length = long by rw [← hcs]; simp)
  have HNN := Lib.hid (show ∀ n ∈ cs, 0 ≤ n from fun n hn => by rw [← hcs] at hn; rw [(List.mem_replicate.1 hn).2]; exact hx)
  have HEQ := Lib.hid (show ∀ j (h : j < cs.length), cs[j] = x from fun j h => by have h2 := List.getElem_mem h; generalize cs[j] = y at h2 ⊢; rw [← hcs] at h2; exact (List.mem_replicate.1 h2).2)
  rw [hcs]
  have HC0 := Lib.hid hc
  clear hcs hx hc
  go_enter Try.func62, Try.ntmps62
  go_wp2
  go_loopw [8, 12] (fun v i wr => ∃ j : Nat, j ≤ long ∧ i = .int .i64 j ∧ (∃ v' X, v = v' ∧ cpy (cs.take j) 0 = X ∧ Own wr w.heap.size 3 v' X) ∧ sumL (cs.take j) ≤ 4096 ∧ Chg (fun _ => False) w wr) (fun _ i _ => long - (intOf i).toNat)
  case atStart => exact ⟨0, Nat.zero_le _, rfl, ⟨_, _, rfl, rfl, Own.nil _ _ _⟩, by simp [sumL], Chg.refl _ _⟩
  case round =>
    obtain ⟨j, hj, rfl, ⟨v', X, rfl, hX, hown⟩, hsum, hC⟩ := hrel
    have hXl : (X.length : Int) = sumL (cs.take j) := by rw [← hX]; exact cpy_length 0 (fun n hn => HNN.out n (List.mem_of_mem_take hn))
    by_cases hlt : j < long
    · have hjc : j < cs.length := by rw [HCL.out]; exact hlt
      have hlt' : (j : Int) < (long : Int) := by omega
      have hkw : IntKind.i64.wrap ((j : Int) + 1) = (j : Int) + 1 := IntWalk.i64_in _ (by omega)
      obtain ⟨N, hN⟩ : ∃ N, X.length = N := ⟨_, rfl⟩
      rw [hN] at hXl
      obtain ⟨ao, cap, hv⟩ := own_name hown
      rw [hN] at hv
      subst hv
      have hN4 : N ≤ 4096 := by omega
      have HS1 := Lib.hid (sumL_take HNN.out (j + 1))
      have HXN := Lib.hid hN
      have HN4 := Lib.hid hN4
      have HSN := Lib.hid hXl
      have hsq := sumL_succ hjc
      have hcs := cpy_succ hjc
      rw [hX] at hcs
      obtain ⟨q, hq⟩ : ∃ q, cs[j] = q := ⟨_, rfl⟩
      have HQ0 := Lib.hid (show 0 ≤ q by rw [← hq]; exact HNN.out _ (List.getElem_mem hjc))
      rw [hq] at hsq hcs
      have HSQ := Lib.hid hsq
      have HCS0 := Lib.hid hcs
      have HCS := Lib.hid (show ∀ m : Nat, q = (m : Int) → cpy (cs.take (j + 1)) 0 = X ++ List.replicate m (j : Int) from fun m h => by rw [HCS0.out, h]; rfl)
      have HLT := Lib.hid hlt
      obtain rfl : q = x := (by rw [← hq]; exact HEQ.out j hjc); have hcell := hC.cell HC0.out id
      clear hsq hcs hX hXl hN hN4 hjc hlt hj hsum HCS0 hq
      have hq0 : 0 ≤ q := HQ0.out
      have n4 := HN4.out
      by_cases hbig : 4096 < q
      · have d1 : decide (4096 < q) = true := decide_eq_true hbig
        have HR := Lib.hid (show ¬ sumL cs ≤ 4096 by have h1 := HS1.out; have h2 := HSN.out; have h3 := HSQ.out; omega)
        have HR2 := Lib.hid (show cpR cs = [] from if_neg (by have := HR.out; omega))
        have HC := Lib.hid hC
        clear hbig hq0 hC hown n4
        go_wp2
        go_ret2
        refine ⟨_, ?_, by rw [HR2.out]; exact Own.nil _ _ _, HC.out⟩
        rw [decide_eq_false (show ¬ sumL cs ≤ 4096 by have := HR.out; omega)]; rfl
      · have d1 : decide (4096 < q) = false := decide_eq_false hbig
        have kw : IntKind.i64.wrap ((N : Int) + q) = (N : Int) + q := IntWalk.i64_in _ (by omega)
        by_cases hbig2 : 4096 < (N : Int) + q
        · have d2 : decide (4096 < (N : Int) + q) = true := decide_eq_true hbig2
          have HR := Lib.hid (show ¬ sumL cs ≤ 4096 by have h1 := HS1.out; have h2 := HSN.out; have h3 := HSQ.out; omega)
          have HR2 := Lib.hid (show cpR cs = [] from if_neg (by have := HR.out; omega))
          have HC := Lib.hid hC
          clear hbig hbig2 hq0 hC hown n4
          go_wp2
          go_ret2
          refine ⟨_, ?_, by rw [HR2.out]; exact Own.nil _ _ _, HC.out⟩
          rw [decide_eq_false (show ¬ sumL cs ≤ 4096 by have := HR.out; omega)]; rfl
        · have d2 : decide (4096 < (N : Int) + q) = false := decide_eq_false hbig2
          obtain ⟨m, rfl⟩ := Int.eq_ofNat_of_zero_le hq0
          have hm : m ≤ 4096 := by omega
          have HS2 := Lib.hid (show sumL (cs.take (j + 1)) ≤ 4096 by have h1 := HSN.out; have h3 := HSQ.out; omega)
          have HM := Lib.hid hm
          have HC := Lib.hid hC
          have HO := Lib.hid hown
          have hrep := repeat_any wr.heap.size 0 1 m (j : Int) (wr.alloc (.cells #[.int .i64 (j : Int)] 3)) (new_cell wr _ _ rfl) hm
          clear hbig hbig2 hq0 hC hown n4
          go_wp2_with fail
          refine hrep.mono ?_
          clear hrep
          rintro e9 w5 ⟨v5, rfl, ho5, hC5⟩
          obtain ⟨a5, l5, c5, rfl, hl5⟩ := owns_name ho5
          have hl5' : l5 = m := by rw [hl5.out, List.length_replicate]
          have HL5 := Lib.hid hl5'
          have HCA := Lib.hid (((Chg.refl (fun _ => False) wr).alloc (.cells #[.int .i64 (j : Int)] 3)).tr hC5)
          have HO5 := Lib.hid (show Ls w5 (.slice a5 l5 c5) (List.replicate m (j : Int)) from ho5.ls)
          clear ho5 hC5 hl5 hl5'
          go_wp2_with (at_builtin; refine wpList_append_own_any rfl (.tmp 33) (.tmp 37) 22 rfl w.heap.size 3 i0 (.int .i64 0) 1 8 Try.underlying22 hi hz0 hz1 hz2 rfl (by decide) (.slice ao N cap) N (X.map I) rfl (by have h := HO.out.fr HCA.out; unfold Own at h; rw [HXN.out] at h; exact h) a5 l5 c5 ((List.replicate m (j : Int)).map I) rfl (by rw [HL5.out]; simp) HO5.out.src (I_one _) (by have h1 := HL5.out; have h2 := HM.out; have h3 := HN4.out; unfold maxLen; omega) (by have h1 := HL5.out; have h2 := HM.out; have h3 := HN4.out; omega) (by have h1 := HC.out.size; have h2 := HCA.out.size; omega) ?_; intro v6 w6 hown6 hg6 _ hO6)
          obtain ⟨a6, l6, c6, rfl, hl6⟩ := owns_name hown6
          have HG6 := Lib.hid hg6
          have HO6 := Lib.hid hown6
          clear hown6 hg6 hO6
          go_wp2
          go_roundw
          case rel =>
            refine ⟨j + 1, HLT.out, by go_num, ⟨_, X ++ List.replicate m (j : Int), rfl, ?_, ?_⟩, HS2.out, ?_⟩
            · exact HCS.out m rfl
            · have h := HO6.out
              unfold Own
              rw [List.length_append, List.map_append, HXN.out, List.length_replicate]
              rw [HL5.out] at h
              exact h
            · refine (HC.out.tr HCA.out).grown HG6.out (fun k e => .inr ?_)
              exact ((HO.out.lt k e).1)
          case measure => exact fit_meas j long HLT.out
    · obtain rfl : j = long := by omega
      have hd : ¬ (j : Int) < (j : Int) := by omega
      rw [List.take_of_length_le (by rw [HCL.out]; exact Nat.le_refl _)] at hX hsum
      have HR := Lib.hid (show cpR cs = X by unfold cpR; rw [if_pos hsum]; exact hX)
      have HSM := Lib.hid hsum
      have HC := Lib.hid hC
      have HO := Lib.hid hown
      obtain ⟨ao, L, cap, rfl, hL⟩ := owns_name hown
      clear hX hsum hC hown hXl
      go_wp2
      go_ret2
      refine ⟨_, ?_, by rw [HR.out]; exact HO.out, HC.out⟩
      rw [decide_eq_true HSM.out]; rfl
set_option maxRecDepth 100000 in
set_option maxHeartbeats 2000000 in
theorem copies_each (v : Value) (cs : List Int) (long : Nat) (hlong : cs.length = long) (w : World) (hS : Ls w v cs) (hn : ∀ n ∈ cs, 0 ≤ n) (hl : cs.length ≤ 1000000) : Calls Try.prog 62 #[v, .bool false, .int .i64 (long : Int)] w (GaveCo w cs) := by
  obtain ⟨i0, hi, hz0, hz1, hz2⟩ := info_parts info_int
  obtain ⟨ab, c, rfl, _⟩ := hS.form
  rw [hlong] at hS hl ⊢
  have HCL := Lib.hid hlong
  have HNN := Lib.hid hn
  have HS := Lib.hid hS
  clear hlong hn hS
  go_enter Try.func62, Try.ntmps62
  go_wp2
  go_loopw [8, 12] (fun v i wr => ∃ j : Nat, j ≤ long ∧ i = .int .i64 j ∧ (∃ v' X, v = v' ∧ cpy (cs.take j) 0 = X ∧ Own wr w.heap.size 3 v' X) ∧ sumL (cs.take j) ≤ 4096 ∧ Chg (fun _ => False) w wr) (fun _ i _ => long - (intOf i).toNat)
  case atStart => exact ⟨0, Nat.zero_le _, rfl, ⟨_, _, rfl, rfl, Own.nil _ _ _⟩, by simp [sumL], Chg.refl _ _⟩
  case round =>
    obtain ⟨j, hj, rfl, ⟨v', X, rfl, hX, hown⟩, hsum, hC⟩ := hrel
    have hXl : (X.length : Int) = sumL (cs.take j) := by rw [← hX]; exact cpy_length 0 (fun n hn => HNN.out n (List.mem_of_mem_take hn))
    by_cases hlt : j < long
    · have hjc : j < cs.length := by rw [HCL.out]; exact hlt
      have hlt' : (j : Int) < (long : Int) := by omega
      have hkw : IntKind.i64.wrap ((j : Int) + 1) = (j : Int) + 1 := IntWalk.i64_in _ (by omega)
      obtain ⟨N, hN⟩ : ∃ N, X.length = N := ⟨_, rfl⟩
      rw [hN] at hXl
      obtain ⟨ao, cap, hv⟩ := own_name hown
      rw [hN] at hv
      subst hv
      have hN4 : N ≤ 4096 := by omega
      have HS1 := Lib.hid (sumL_take HNN.out (j + 1))
      have HXN := Lib.hid hN
      have HN4 := Lib.hid hN4
      have HSN := Lib.hid hXl
      have hsq := sumL_succ hjc
      have hcs := cpy_succ hjc
      rw [hX] at hcs
      obtain ⟨q, hq⟩ : ∃ q, cs[j] = q := ⟨_, rfl⟩
      have HQ0 := Lib.hid (show 0 ≤ q by rw [← hq]; exact HNN.out _ (List.getElem_mem hjc))
      rw [hq] at hsq hcs
      have HSQ := Lib.hid hsq
      have HCS0 := Lib.hid hcs
      have HCS := Lib.hid (show ∀ m : Nat, q = (m : Int) → cpy (cs.take (j + 1)) 0 = X ++ List.replicate m (j : Int) from fun m h => by rw [HCS0.out, h]; rfl)
      have HLT := Lib.hid hlt
      obtain ⟨bb, oo, cc, e1, hcell0⟩ := (HS.out.fr hC).at (show 0 < cs.length by omega); rw [HCL.out] at e1; injection e1 with e1 e2 e3; subst e1; clear e2 e3; obtain ⟨b2, o2, c2, e1, hcell⟩ := (HS.out.fr hC).at hjc; rw [HCL.out] at e1; injection e1 with e1 e2 e3; injection e1 with e1; injection e1 with e1 e4 e5; subst e1; subst e4; clear e2 e3 e5; rw [hq] at hcell; rw [Nat.add_zero] at hcell0; generalize cs[0] = y0 at hcell0; have l0 : (0 : Int) < (long : Int) := by omega
      clear hsq hcs hX hXl hN hN4 hjc hlt hj hsum HCS0 hq
      have hq0 : 0 ≤ q := HQ0.out
      have n4 := HN4.out
      by_cases hbig : 4096 < q
      · have d1 : decide (4096 < q) = true := decide_eq_true hbig
        have HR := Lib.hid (show ¬ sumL cs ≤ 4096 by have h1 := HS1.out; have h2 := HSN.out; have h3 := HSQ.out; omega)
        have HR2 := Lib.hid (show cpR cs = [] from if_neg (by have := HR.out; omega))
        have HC := Lib.hid hC
        clear hbig hq0 hC hown n4
        go_wp2
        go_ret2
        refine ⟨_, ?_, by rw [HR2.out]; exact Own.nil _ _ _, HC.out⟩
        rw [decide_eq_false (show ¬ sumL cs ≤ 4096 by have := HR.out; omega)]; rfl
      · have d1 : decide (4096 < q) = false := decide_eq_false hbig
        have kw : IntKind.i64.wrap ((N : Int) + q) = (N : Int) + q := IntWalk.i64_in _ (by omega)
        by_cases hbig2 : 4096 < (N : Int) + q
        · have d2 : decide (4096 < (N : Int) + q) = true := decide_eq_true hbig2
          have HR := Lib.hid (show ¬ sumL cs ≤ 4096 by have h1 := HS1.out; have h2 := HSN.out; have h3 := HSQ.out; omega)
          have HR2 := Lib.hid (show cpR cs = [] from if_neg (by have := HR.out; omega))
          have HC := Lib.hid hC
          clear hbig hbig2 hq0 hC hown n4
          go_wp2
          go_ret2
          refine ⟨_, ?_, by rw [HR2.out]; exact Own.nil _ _ _, HC.out⟩
          rw [decide_eq_false (show ¬ sumL cs ≤ 4096 by have := HR.out; omega)]; rfl
        · have d2 : decide (4096 < (N : Int) + q) = false := decide_eq_false hbig2
          obtain ⟨m, rfl⟩ := Int.eq_ofNat_of_zero_le hq0
          have hm : m ≤ 4096 := by omega
          have HS2 := Lib.hid (show sumL (cs.take (j + 1)) ≤ 4096 by have h1 := HSN.out; have h3 := HSQ.out; omega)
          have HM := Lib.hid hm
          have HC := Lib.hid hC
          have HO := Lib.hid hown
          have hrep := repeat_any wr.heap.size 0 1 m (j : Int) (wr.alloc (.cells #[.int .i64 (j : Int)] 3)) (new_cell wr _ _ rfl) hm
          clear hbig hbig2 hq0 hC hown n4
          go_wp2_with fail
          refine hrep.mono ?_
          clear hrep
          rintro e9 w5 ⟨v5, rfl, ho5, hC5⟩
          obtain ⟨a5, l5, c5, rfl, hl5⟩ := owns_name ho5
          have hl5' : l5 = m := by rw [hl5.out, List.length_replicate]
          have HL5 := Lib.hid hl5'
          have HCA := Lib.hid (((Chg.refl (fun _ => False) wr).alloc (.cells #[.int .i64 (j : Int)] 3)).tr hC5)
          have HO5 := Lib.hid (show Ls w5 (.slice a5 l5 c5) (List.replicate m (j : Int)) from ho5.ls)
          clear ho5 hC5 hl5 hl5'
          go_wp2_with (at_builtin; refine wpList_append_own_any rfl (.tmp 33) (.tmp 37) 22 rfl w.heap.size 3 i0 (.int .i64 0) 1 8 Try.underlying22 hi hz0 hz1 hz2 rfl (by decide) (.slice ao N cap) N (X.map I) rfl (by have h := HO.out.fr HCA.out; unfold Own at h; rw [HXN.out] at h; exact h) a5 l5 c5 ((List.replicate m (j : Int)).map I) rfl (by rw [HL5.out]; simp) HO5.out.src (I_one _) (by have h1 := HL5.out; have h2 := HM.out; have h3 := HN4.out; unfold maxLen; omega) (by have h1 := HL5.out; have h2 := HM.out; have h3 := HN4.out; omega) (by have h1 := HC.out.size; have h2 := HCA.out.size; omega) ?_; intro v6 w6 hown6 hg6 _ hO6)
          obtain ⟨a6, l6, c6, rfl, hl6⟩ := owns_name hown6
          have HG6 := Lib.hid hg6
          have HO6 := Lib.hid hown6
          clear hown6 hg6 hO6
          go_wp2
          go_roundw
          case rel =>
            refine ⟨j + 1, HLT.out, by go_num, ⟨_, X ++ List.replicate m (j : Int), rfl, ?_, ?_⟩, HS2.out, ?_⟩
            · exact HCS.out m rfl
            · have h := HO6.out
              unfold Own
              rw [List.length_append, List.map_append, HXN.out, List.length_replicate]
              rw [HL5.out] at h
              exact h
            · refine (HC.out.tr HCA.out).grown HG6.out (fun k e => .inr ?_)
              exact ((HO.out.lt k e).1)
          case measure => exact fit_meas j long HLT.out
    · obtain rfl : j = long := by omega
      have hd : ¬ (j : Int) < (j : Int) := by omega
      rw [List.take_of_length_le (by rw [HCL.out]; exact Nat.le_refl _)] at hX hsum
      have HR := Lib.hid (show cpR cs = X by unfold cpR; rw [if_pos hsum]; exact hX)
      have HSM := Lib.hid hsum
      have HC := Lib.hid hC
      have HO := Lib.hid hown
      obtain ⟨ao, L, cap, rfl, hL⟩ := owns_name hown
      clear hX hsum hC hown hXl
      go_wp2
      go_ret2
      refine ⟨_, ?_, by rw [HR.out]; exact HO.out, HC.out⟩
      rw [decide_eq_true HSM.out]; rfl
end Go.Proofs.Ytnjnajbdpaaikaa
