/- The document's digits: differences; numbers; signed sums. -/
import Derived.Test.YtjmlekdgipinfaaMp11
namespace Go.Proofs.Ytjmlekdgipinfaa
open Go.RowKit Go.Shelf

set_option maxHeartbeats 4000000 in
theorem r12minus_any (u v : Value) (m n : Nat) (w : World) (hU : Lu w u (dg m)) (hV : Lu w v (dg n)) (hl : (dg m).length ≤ 100000) (hmn : n ≤ m) : Calls Try.prog 135 #[u, v] w (GaveLu w (dg (m - n))) := by
  obtain ⟨ao, c, rfl⟩ := hU.form
  obtain ⟨bo, d, rfl⟩ := hV.form
  have hlen : (dg n).length ≤ (dg m).length := dg_len (Nat.lt_of_le_of_lt hmn (dg_lt m))
  obtain ⟨la, hla⟩ : ∃ x, (dg m).length = x := ⟨_, rfl⟩
  obtain ⟨lb, hlb⟩ : ∃ x, (dg n).length = x := ⟨_, rfl⟩
  rw [hla] at hU hl hlen ⊢
  rw [hlb] at hV hlen ⊢
  have HU := Lib.hid hU
  have HV := Lib.hid hV
  have HMN := Lib.hid hmn
  have HL := Lib.hid (And.intro hla (And.intro hlb (And.intro hlen hl)))
  obtain ⟨i0, hi, hz0, hz1, hz2⟩ := info_parts info_u64
  clear hU hV hla hlb hl hlen hmn
  go_enter Try.func135, Try.ntmps135
  go_wp2
  go_loopw [5, 6, 7] (fun v5 v6 v7 wr => ∃ (i c : Nat) (o : List Nat) (oa : Option Addr) (oc : Nat), i ≤ la ∧ v7 = .int .i64 i ∧ v6 = .int .u64 (c : Int) ∧ v5 = .slice oa i oc ∧ Dgs w wr oa i oc o ∧ MinI (dg m) (dg n) o i c) (fun _ _ v7 _ => la - (intOf v7).toNat)
  case atStart => exact ⟨0, 0, [], none, 0, Nat.zero_le _, rfl, rfl, rfl, Dgs.start w, MinI.start _ _⟩
  case round =>
    obtain ⟨i, k, o, oa, oc, him, rfl, rfl, rfl, hO, hP⟩ := hrel
    have HO := Lib.hid hO
    have HP := Lib.hid hP
    have k1 : (0 : Int) ≤ (i : Int) := Int.natCast_nonneg i
    clear hP
    by_cases ha : i < la
    · have d1 : decide (i < la) = true := decide_eq_true ha
      have HIM := Lib.hid ha
      have hal : i < (dg m).length := by have := HL.out; omega
      obtain ⟨b1, o1, e1, hx⟩ := (HU.out.fr hO.ch).at hal
      subst e1
      have HX := Lib.hid (show (dg m).getD i 0 = (dg m)[i] by rw [List.getD_eq_getElem?_getD, List.getElem?_eq_getElem hal]; rfl)
      have k2 : (i : Int) < (la : Int) := Int.ofNat_lt.2 ha
      generalize (dg m)[i] = x at *
      by_cases hb : i < lb
      · have d2 : decide (i < lb) = true := decide_eq_true hb
        have hbl : i < (dg n).length := by have := HL.out; omega
        obtain ⟨b2, o2, e2, hy⟩ := (HV.out.fr hO.ch).at hbl
        subst e2
        have HY := Lib.hid (show (dg n).getD i 0 = (dg n)[i] by rw [List.getD_eq_getElem?_getD, List.getElem?_eq_getElem hbl]; rfl)
        have k3 : (i : Int) < (lb : Int) := Int.ofNat_lt.2 hb
        generalize (dg n)[i] = y at *
        obtain ⟨t, ht⟩ : ∃ t, k + y = t := ⟨_, rfl⟩
        have HT := Lib.hid (show k + (dg n).getD i 0 = t by rw [HY.out]; exact ht)
        have HXB := Lib.hid (show x < 65536 ∧ t ≤ 65536 by have h1 := getD_dig (dg_dig m) i; have h2 := getD_dig (dg_dig n) i; have h3 := HP.out.c1; rw [HX.out] at h1; rw [HY.out] at h2; omega)
        have u1 := u64_add k y t ht (by have := HXB.out; omega)
        clear ha hb hal hbl ht hO him
        by_cases hxt : x < t
        · have d4 : decide (x < t) = true := decide_eq_true hxt
          obtain ⟨x2, hx2⟩ : ∃ x2, x + 65536 = x2 := ⟨_, rfl⟩
          obtain ⟨d, hd⟩ : ∃ d, x2 - t = d := ⟨_, rfl⟩
          have HPN := Lib.hid (show MinI (dg m) (dg n) (o ++ [d]) (i + 1) 1 from by
            have h5 := HP.out.step1 (dg_dig m) (dg_dig n) (by rw [HX.out, HT.out]; exact hxt)
            rw [HX.out, HT.out, hx2, hd] at h5
            exact h5)
          have u3 : IntKind.u64.wrap ((x : Int) + 65536) = (x2 : Int) := (IntWalk.u64_in _ (by have := HXB.out; omega)).trans (by omega)
          have u4 : IntKind.u64.wrap ((x2 : Int) - (t : Int)) = (d : Int) := (IntWalk.u64_in _ (by have := HXB.out; omega)).trans (by have := HXB.out; omega)
          have HFIT := Lib.hid (show i + 1 ≤ maxLen ∧ (i + 1) * 8 ≤ 140737488355328 by have := HL.out; have := HIM.out; unfold maxLen; omega)
          have HLE := Lib.hid (show w.heap.size ≤ (wr.alloc (.cells #[.int .u64 (d : Int)] 148)).heap.size by have := HO.out.ch.size; simp; omega)
          have kw : IntKind.i64.wrap ((i : Int) + 1) = (i : Int) + 1 := IntWalk.i64_in _ (by have := HL.out; have := HIM.out; omega)
          clear hxt hx2 hd
          go_wp2_with (at_builtin; refine wpList_append_own_any rfl (.tmp 36) (.tmp 40) 122 rfl w.heap.size 148 i0 (.int .u64 0) 1 8 Try.underlying122 hi hz0 hz1 hz2 rfl (by decide) (.slice oa i oc) i (o.map U) rfl (HO.out.own.alloc _) (some ⟨wr.heap.size, 0, none⟩) 1 1 [.int .u64 (d : Int)] rfl rfl (fun j u hu => ⟨_, rfl, cell_one_new wr _ _ j u hu⟩) (by simp [Value.oneCell']) HFIT.out.1 HFIT.out.2 HLE.out ?_; intro v2 w2 hown2 hg2 _ hO2; obtain ⟨a2, L2, c2, rfl, hL2⟩ := owns_name hown2)
          rw [hL2.out] at hown2
          have hDG := HO.out.more hown2 hg2
          go_roundw
          case rel => exact ⟨i + 1, _, o ++ [d], a2, c2, HIM.out, congrArg (Value.int IntKind.i64) (Int.natCast_succ i).symm, rfl, by rw [hL2.out], hDG, HPN.out⟩
          case measure => exact fit_meas i la HIM.out
        · have d4 : decide (x < t) = false := decide_eq_false hxt
          obtain ⟨d, hd⟩ : ∃ d, x - t = d := ⟨_, rfl⟩
          have HPN := Lib.hid (show MinI (dg m) (dg n) (o ++ [d]) (i + 1) 0 from by
            have h5 := HP.out.step0 (dg_dig m) (dg_dig n) (by rw [HX.out, HT.out]; exact hxt)
            rw [HX.out, HT.out, hd] at h5
            exact h5)
          have u4 : IntKind.u64.wrap ((x : Int) - (t : Int)) = (d : Int) := (IntWalk.u64_in _ (by have := HXB.out; omega)).trans (by omega)
          have HFIT := Lib.hid (show i + 1 ≤ maxLen ∧ (i + 1) * 8 ≤ 140737488355328 by have := HL.out; have := HIM.out; unfold maxLen; omega)
          have HLE := Lib.hid (show w.heap.size ≤ (wr.alloc (.cells #[.int .u64 (d : Int)] 148)).heap.size by have := HO.out.ch.size; simp; omega)
          have kw : IntKind.i64.wrap ((i : Int) + 1) = (i : Int) + 1 := IntWalk.i64_in _ (by have := HL.out; have := HIM.out; omega)
          clear hxt hd
          go_wp2_with (at_builtin; refine wpList_append_own_any rfl (.tmp 36) (.tmp 40) 122 rfl w.heap.size 148 i0 (.int .u64 0) 1 8 Try.underlying122 hi hz0 hz1 hz2 rfl (by decide) (.slice oa i oc) i (o.map U) rfl (HO.out.own.alloc _) (some ⟨wr.heap.size, 0, none⟩) 1 1 [.int .u64 (d : Int)] rfl rfl (fun j u hu => ⟨_, rfl, cell_one_new wr _ _ j u hu⟩) (by simp [Value.oneCell']) HFIT.out.1 HFIT.out.2 HLE.out ?_; intro v2 w2 hown2 hg2 _ hO2; obtain ⟨a2, L2, c2, rfl, hL2⟩ := owns_name hown2)
          rw [hL2.out] at hown2
          have hDG := HO.out.more hown2 hg2
          go_roundw
          case rel => exact ⟨i + 1, _, o ++ [d], a2, c2, HIM.out, congrArg (Value.int IntKind.i64) (Int.natCast_succ i).symm, rfl, by rw [hL2.out], hDG, HPN.out⟩
          case measure => exact fit_meas i la HIM.out
      · have d2 : decide (i < lb) = false := decide_eq_false hb
        have HY := Lib.hid (show (dg n).getD i 0 = 0 by rw [List.getD_eq_getElem?_getD, List.getElem?_eq_none (by have := HL.out; omega)]; rfl)
        obtain ⟨t, ht⟩ : ∃ t, t = k := ⟨_, rfl⟩
        subst ht
        have HT := Lib.hid (show t + (dg n).getD i 0 = t by rw [HY.out]; omega)
        have HXB := Lib.hid (show x < 65536 ∧ t ≤ 65536 by have h1 := getD_dig (dg_dig m) i; have h3 := HP.out.c1; rw [HX.out] at h1; omega)
        clear ha hb hal hO him
        by_cases hxt : x < t
        · have d4 : decide (x < t) = true := decide_eq_true hxt
          obtain ⟨x2, hx2⟩ : ∃ x2, x + 65536 = x2 := ⟨_, rfl⟩
          obtain ⟨d, hd⟩ : ∃ d, x2 - t = d := ⟨_, rfl⟩
          have HPN := Lib.hid (show MinI (dg m) (dg n) (o ++ [d]) (i + 1) 1 from by
            have h5 := HP.out.step1 (dg_dig m) (dg_dig n) (by rw [HX.out, HT.out]; exact hxt)
            rw [HX.out, HT.out, hx2, hd] at h5
            exact h5)
          have u3 : IntKind.u64.wrap ((x : Int) + 65536) = (x2 : Int) := (IntWalk.u64_in _ (by have := HXB.out; omega)).trans (by omega)
          have u4 : IntKind.u64.wrap ((x2 : Int) - (t : Int)) = (d : Int) := (IntWalk.u64_in _ (by have := HXB.out; omega)).trans (by have := HXB.out; omega)
          have HFIT := Lib.hid (show i + 1 ≤ maxLen ∧ (i + 1) * 8 ≤ 140737488355328 by have := HL.out; have := HIM.out; unfold maxLen; omega)
          have HLE := Lib.hid (show w.heap.size ≤ (wr.alloc (.cells #[.int .u64 (d : Int)] 148)).heap.size by have := HO.out.ch.size; simp; omega)
          have kw : IntKind.i64.wrap ((i : Int) + 1) = (i : Int) + 1 := IntWalk.i64_in _ (by have := HL.out; have := HIM.out; omega)
          clear hxt hx2 hd
          go_wp2_with (at_builtin; refine wpList_append_own_any rfl (.tmp 36) (.tmp 40) 122 rfl w.heap.size 148 i0 (.int .u64 0) 1 8 Try.underlying122 hi hz0 hz1 hz2 rfl (by decide) (.slice oa i oc) i (o.map U) rfl (HO.out.own.alloc _) (some ⟨wr.heap.size, 0, none⟩) 1 1 [.int .u64 (d : Int)] rfl rfl (fun j u hu => ⟨_, rfl, cell_one_new wr _ _ j u hu⟩) (by simp [Value.oneCell']) HFIT.out.1 HFIT.out.2 HLE.out ?_; intro v2 w2 hown2 hg2 _ hO2; obtain ⟨a2, L2, c2, rfl, hL2⟩ := owns_name hown2)
          rw [hL2.out] at hown2
          have hDG := HO.out.more hown2 hg2
          go_roundw
          case rel => exact ⟨i + 1, _, o ++ [d], a2, c2, HIM.out, congrArg (Value.int IntKind.i64) (Int.natCast_succ i).symm, rfl, by rw [hL2.out], hDG, HPN.out⟩
          case measure => exact fit_meas i la HIM.out
        · have d4 : decide (x < t) = false := decide_eq_false hxt
          obtain ⟨d, hd⟩ : ∃ d, x - t = d := ⟨_, rfl⟩
          have HPN := Lib.hid (show MinI (dg m) (dg n) (o ++ [d]) (i + 1) 0 from by
            have h5 := HP.out.step0 (dg_dig m) (dg_dig n) (by rw [HX.out, HT.out]; exact hxt)
            rw [HX.out, HT.out, hd] at h5
            exact h5)
          have u4 : IntKind.u64.wrap ((x : Int) - (t : Int)) = (d : Int) := (IntWalk.u64_in _ (by have := HXB.out; omega)).trans (by omega)
          have HFIT := Lib.hid (show i + 1 ≤ maxLen ∧ (i + 1) * 8 ≤ 140737488355328 by have := HL.out; have := HIM.out; unfold maxLen; omega)
          have HLE := Lib.hid (show w.heap.size ≤ (wr.alloc (.cells #[.int .u64 (d : Int)] 148)).heap.size by have := HO.out.ch.size; simp; omega)
          have kw : IntKind.i64.wrap ((i : Int) + 1) = (i : Int) + 1 := IntWalk.i64_in _ (by have := HL.out; have := HIM.out; omega)
          clear hxt hd
          go_wp2_with (at_builtin; refine wpList_append_own_any rfl (.tmp 36) (.tmp 40) 122 rfl w.heap.size 148 i0 (.int .u64 0) 1 8 Try.underlying122 hi hz0 hz1 hz2 rfl (by decide) (.slice oa i oc) i (o.map U) rfl (HO.out.own.alloc _) (some ⟨wr.heap.size, 0, none⟩) 1 1 [.int .u64 (d : Int)] rfl rfl (fun j u hu => ⟨_, rfl, cell_one_new wr _ _ j u hu⟩) (by simp [Value.oneCell']) HFIT.out.1 HFIT.out.2 HLE.out ?_; intro v2 w2 hown2 hg2 _ hO2; obtain ⟨a2, L2, c2, rfl, hL2⟩ := owns_name hown2)
          rw [hL2.out] at hown2
          have hDG := HO.out.more hown2 hg2
          go_roundw
          case rel => exact ⟨i + 1, _, o ++ [d], a2, c2, HIM.out, congrArg (Value.int IntKind.i64) (Int.natCast_succ i).symm, rfl, by rw [hL2.out], hDG, HPN.out⟩
          case measure => exact fit_meas i la HIM.out
    · have d1 : decide (i < la) = false := decide_eq_false ha
      obtain rfl : la = i := by omega
      have HV2 := Lib.hid (show vl o = m - n by
        have h5 := HP.out
        have h6 := HL.out.1
        have h7 : MinI (dg m) (dg n) o (dg m).length k := by rw [h6]; exact h5
        have h8 := h7.done (by have := HL.out; omega) (by rw [vl_dg, vl_dg]; exact HMN.out)
        rwa [vl_dg, vl_dg] at h8)
      have hsh := r12short_any _ o wr hO.lu HP.out.dig (by rw [HP.out.len]; have := HL.out; omega)
      rw [HV2.out] at hsh
      unfold GaveLu at hsh
      clear ha him hO
      go_wp2_with fail
      refine hsh.mono ?_
      clear hsh
      rintro e9 w2 ⟨a2, c2, rfl, hS2, hC2⟩
      go_wp2
      go_ret
      exact ⟨a2, c2, rfl, hS2, HO.out.ch.tr hC2⟩
end Go.Proofs.Ytjmlekdgipinfaa
