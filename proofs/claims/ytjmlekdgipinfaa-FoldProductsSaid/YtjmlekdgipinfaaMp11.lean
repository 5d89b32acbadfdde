/- The document's digits: sums and differences. -/
import Derived.Test.YtjmlekdgipinfaaMp6
import Derived.Test.YtjmlekdgipinfaaMp10
namespace Go.Proofs.Ytjmlekdgipinfaa
open Go.RowKit Go.Shelf

theorem dig_facts (s : Nat) (hs : s < 18446744073709551616) : Int.tmod (s : Int) 65536 = ((s % 65536 : Nat) : Int) ∧ Int.tdiv (s : Int) 65536 = ((s / 65536 : Nat) : Int) ∧ IntKind.u64.wrap ((s % 65536 : Nat) : Int) = ((s % 65536 : Nat) : Int) ∧ IntKind.u64.wrap ((s / 65536 : Nat) : Int) = ((s / 65536 : Nat) : Int) := by
  refine ⟨?_, ?_, ?_, ?_⟩
  · rw [Int.tmod_eq_emod_of_nonneg (by omega)]; omega
  · rw [Int.tdiv_eq_ediv_of_nonneg (by omega)]; omega
  · exact IntWalk.u64_in _ (by omega)
  · exact IntWalk.u64_in _ (by omega)
theorem u64_add (x y s : Nat) (h : x + y = s) (hs : s < 18446744073709551616) : IntKind.u64.wrap ((x : Int) + (y : Int)) = (s : Int) := (IntWalk.u64_in _ (by omega)).trans (by omega)
/-- Digits under way, in memory of the call's own. -/
structure Dgs (w wr : World) (oa : Option Addr) (i oc : Nat) (o : List Nat) : Prop where
  own : wr.ownsRow w.heap.size 148 1 (.slice oa i oc) i (o.map U)
  ch : Chg (fun _ => False) w wr
theorem Dgs.lu {w wr : World} {oa : Option Addr} {i oc : Nat} {o : List Nat} (h : Dgs w wr oa i oc o) : Lu wr (.slice oa i oc) o := Sl.of_owns h.own
theorem Dgs.start (w : World) : Dgs w w none 0 0 [] := ⟨World.ownsRow_nil _ _ _ _, Chg.refl _ _⟩
theorem Dgs.more {w wr w2 : World} {oa a2 : Option Addr} {i oc c2 x : Nat} {o : List Nat} {ob : Obj} (h : Dgs w wr oa i oc o) (h2 : w2.ownsRow w.heap.size 148 1 (.slice a2 (i + 1) c2) (i + 1) (o.map U ++ [.int .u64 (x : Int)])) (hg : (wr.alloc ob).grownBy w2 (Value.slice oa i oc).ownBlock) : Dgs w w2 a2 (i + 1) c2 (o ++ [x]) := by
  refine ⟨by rw [List.map_append]; exact h2, ?_⟩
  have c1 : Chg (fun q => (Value.slice oa i oc).ownBlock = some q) (wr.alloc ob) w2 := (Chg.refl _ _).grown hg (fun k e => .inl e)
  exact (h.ch.alloc ob).trans c1 (fun _ _ h => h) (fun k hk e => by have := (h.own.lt k e).1; omega)
set_option maxHeartbeats 4000000 in
theorem r12plus_any (u v : Value) (m n : Nat) (w : World) (hU : Lu w u (dg m)) (hV : Lu w v (dg n)) (hl : (dg m).length ≤ 100000) (hl2 : (dg n).length ≤ 100000) : Calls Try.prog 133 #[u, v] w (GaveLu w (dg (m + n))) := by
  obtain ⟨ao, c, rfl⟩ := hU.form
  obtain ⟨bo, d, rfl⟩ := hV.form
  obtain ⟨la, hla⟩ : ∃ x, (dg m).length = x := ⟨_, rfl⟩
  obtain ⟨lb, hlb⟩ : ∃ x, (dg n).length = x := ⟨_, rfl⟩
  rw [hla] at hU hl ⊢
  rw [hlb] at hV hl2 ⊢
  obtain ⟨mx, hmx⟩ : ∃ mx, max la lb = mx := ⟨_, rfl⟩
  have HU := Lib.hid hU
  have HV := Lib.hid hV
  have HL := Lib.hid (And.intro hla (And.intro hlb (show la ≤ mx ∧ lb ≤ mx ∧ mx ≤ 100000 ∧ (mx = la ∨ mx = lb) by omega)))
  obtain ⟨i0, hi, hz0, hz1, hz2⟩ := info_parts info_u64
  clear hU hV hla hlb hl hl2 hmx
  go_enter Try.func133, Try.ntmps133
  go_wp2
  go_loopw [5, 6, 7] (fun v5 v6 v7 wr => ∃ (i c : Nat) (o : List Nat) (oa : Option Addr) (oc : Nat), i ≤ mx + 1 ∧ v7 = .int .i64 i ∧ v6 = .int .u64 (c : Int) ∧ v5 = .slice oa i oc ∧ Dgs w wr oa i oc o ∧ PlsI (dg m) (dg n) o i c ∧ (i = mx + 1 → c = 0)) (fun _ _ v7 _ => mx + 1 - (intOf v7).toNat)
  case atStart => exact ⟨0, 0, [], none, 0, Nat.zero_le _, rfl, rfl, rfl, Dgs.start w, PlsI.start _ _, fun _ => rfl⟩
  case round =>
    obtain ⟨i, k, o, oa, oc, him, rfl, rfl, rfl, hO, hP, hlast⟩ := hrel
    have HO := Lib.hid hO
    have HP := Lib.hid hP
    have k1 : (0 : Int) ≤ (i : Int) := Int.natCast_nonneg i
    clear hP
    by_cases ha : i < la
    · have d1 : decide (i < la) = true := decide_eq_true ha
      have HIM := Lib.hid (show i < mx + 1 by have := HL.out; omega)
      have hal : i < (dg m).length := by have := HL.out; omega
      obtain ⟨b1, o1, e1, hx⟩ := (HU.out.fr hO.ch).at hal
      subst e1
      have HX := Lib.hid (show (dg m).getD i 0 = (dg m)[i] by rw [List.getD_eq_getElem?_getD, List.getElem?_eq_getElem hal]; rfl)
      have k2 : (i : Int) < (la : Int) := Int.ofNat_lt.2 ha
      generalize (dg m)[i] = x at *
      by_cases hb : i < lb
      · have d2 : decide (i < lb) = true := decide_eq_true hb
        have hbl : i < (dg n).length := by have := HL.out; omega
        obtain ⟨b2, o2, e2, hy⟩ := (HV.out.fr hO.ch).at hbl
        subst e2
        have HY := Lib.hid (show (dg n).getD i 0 = (dg n)[i] by rw [List.getD_eq_getElem?_getD, List.getElem?_eq_getElem hbl]; rfl)
        have k3 : (i : Int) < (lb : Int) := Int.ofNat_lt.2 hb
        generalize (dg n)[i] = y at *
        obtain ⟨s1, hs1⟩ : ∃ s, k + x = s := ⟨_, rfl⟩
        obtain ⟨s, hs⟩ : ∃ s, s1 + y = s := ⟨_, rfl⟩
        have HS := Lib.hid (show s = k + (dg m).getD i 0 + (dg n).getD i 0 by rw [HX.out, HY.out]; omega)
        have u1 := u64_add k x s1 hs1 (by have h1 := getD_dig (dg_dig m) i; have h3 := HP.out.c1; rw [HX.out] at h1; omega)
        have u2 := u64_add s1 y s hs (by have h1 := getD_dig (dg_dig m) i; have h2 := getD_dig (dg_dig n) i; have h3 := HP.out.c1; rw [HX.out] at h1; rw [HY.out] at h2; omega)
        clear ha hb hal hbl hs hs1 hO hlast him
        have HPN := Lib.hid (HP.out.step (dg_dig m) (dg_dig n) (s := s) (by exact HS.out.symm))
        have hsb : s ≤ 131071 := by have h1 := getD_dig (dg_dig m) i; have h2 := getD_dig (dg_dig n) i; have h3 := HP.out.c1; have h4 := HS.out; omega
        obtain ⟨t1, t2, t3, t4⟩ := dig_facts s (by omega)
        have HNX := Lib.hid (show i + 1 = mx + 1 → s / 65536 = 0 from fun e => by have := HL.out; have := HIM.out; omega)
        have HDB := Lib.hid (show s % 65536 < 65536 ∧ s / 65536 ≤ 1 by omega)
        obtain ⟨d, hd⟩ : ∃ d, s % 65536 = d := ⟨_, rfl⟩
        obtain ⟨c', hc'⟩ : ∃ c', s / 65536 = c' := ⟨_, rfl⟩
        rw [hd] at t1 t3 HPN HDB
        rw [hc'] at t2 t4 HPN HNX HDB
        have HFIT := Lib.hid (show i + 1 ≤ maxLen ∧ (i + 1) * 8 ≤ 140737488355328 by have := HL.out; have := HIM.out; unfold maxLen; omega)
        have HLE := Lib.hid (show w.heap.size ≤ (wr.alloc (.cells #[.int .u64 (d : Int)] 148)).heap.size by have := HO.out.ch.size; simp; omega)
        have kw : IntKind.i64.wrap ((i : Int) + 1) = (i : Int) + 1 := IntWalk.i64_in _ (by have := HL.out; have := HIM.out; omega)
        clear hsb hd hc'
        go_wp2_with (at_builtin; refine wpList_append_own_any rfl (.tmp 44) (.tmp 47) 122 rfl w.heap.size 148 i0 (.int .u64 0) 1 8 Try.underlying122 hi hz0 hz1 hz2 rfl (by decide) (.slice oa i oc) i (o.map U) rfl (HO.out.own.alloc _) (some ⟨wr.heap.size, 0, none⟩) 1 1 [.int .u64 (d : Int)] rfl rfl (fun j u hu => ⟨_, rfl, cell_one_new wr _ _ j u hu⟩) (by simp [Value.oneCell']) HFIT.out.1 HFIT.out.2 HLE.out ?_; intro v2 w2 hown2 hg2 _ hO2; obtain ⟨a2, L2, c2, rfl, hL2⟩ := owns_name hown2)
        rw [hL2.out] at hown2
        have hDG := HO.out.more hown2 hg2
        go_roundw
        case rel => exact ⟨i + 1, c', o ++ [d], a2, c2, by have := HIM.out; omega, congrArg (Value.int IntKind.i64) (Int.natCast_succ i).symm, rfl, by rw [hL2.out], hDG, HPN.out, HNX.out⟩
        case measure => exact fit_meas i (mx + 1) HIM.out
      · have d2 : decide (i < lb) = false := decide_eq_false hb
        obtain ⟨s, hs⟩ : ∃ s, k + x = s := ⟨_, rfl⟩
        have HY := Lib.hid (show (dg n).getD i 0 = 0 by rw [List.getD_eq_getElem?_getD, List.getElem?_eq_none (by have := HL.out; omega)]; rfl)
        have HS := Lib.hid (show s = k + (dg m).getD i 0 + (dg n).getD i 0 by rw [HX.out, HY.out]; omega)
        have u1 := u64_add k x s hs (by have h1 := getD_dig (dg_dig m) i; have h3 := HP.out.c1; rw [HX.out] at h1; omega)
        clear ha hb hal hs hO hlast him
        have HPN := Lib.hid (HP.out.step (dg_dig m) (dg_dig n) (s := s) (by exact HS.out.symm))
        have hsb : s ≤ 131071 := by have h1 := getD_dig (dg_dig m) i; have h2 := getD_dig (dg_dig n) i; have h3 := HP.out.c1; have h4 := HS.out; omega
        obtain ⟨t1, t2, t3, t4⟩ := dig_facts s (by omega)
        have HNX := Lib.hid (show i + 1 = mx + 1 → s / 65536 = 0 from fun e => by have := HL.out; have := HIM.out; omega)
        have HDB := Lib.hid (show s % 65536 < 65536 ∧ s / 65536 ≤ 1 by omega)
        obtain ⟨d, hd⟩ : ∃ d, s % 65536 = d := ⟨_, rfl⟩
        obtain ⟨c', hc'⟩ : ∃ c', s / 65536 = c' := ⟨_, rfl⟩
        rw [hd] at t1 t3 HPN HDB
        rw [hc'] at t2 t4 HPN HNX HDB
        have HFIT := Lib.hid (show i + 1 ≤ maxLen ∧ (i + 1) * 8 ≤ 140737488355328 by have := HL.out; have := HIM.out; unfold maxLen; omega)
        have HLE := Lib.hid (show w.heap.size ≤ (wr.alloc (.cells #[.int .u64 (d : Int)] 148)).heap.size by have := HO.out.ch.size; simp; omega)
        have kw : IntKind.i64.wrap ((i : Int) + 1) = (i : Int) + 1 := IntWalk.i64_in _ (by have := HL.out; have := HIM.out; omega)
        clear hsb hd hc'
        go_wp2_with (at_builtin; refine wpList_append_own_any rfl (.tmp 44) (.tmp 47) 122 rfl w.heap.size 148 i0 (.int .u64 0) 1 8 Try.underlying122 hi hz0 hz1 hz2 rfl (by decide) (.slice oa i oc) i (o.map U) rfl (HO.out.own.alloc _) (some ⟨wr.heap.size, 0, none⟩) 1 1 [.int .u64 (d : Int)] rfl rfl (fun j u hu => ⟨_, rfl, cell_one_new wr _ _ j u hu⟩) (by simp [Value.oneCell']) HFIT.out.1 HFIT.out.2 HLE.out ?_; intro v2 w2 hown2 hg2 _ hO2; obtain ⟨a2, L2, c2, rfl, hL2⟩ := owns_name hown2)
        rw [hL2.out] at hown2
        have hDG := HO.out.more hown2 hg2
        go_roundw
        case rel => exact ⟨i + 1, c', o ++ [d], a2, c2, by have := HIM.out; omega, congrArg (Value.int IntKind.i64) (Int.natCast_succ i).symm, rfl, by rw [hL2.out], hDG, HPN.out, HNX.out⟩
        case measure => exact fit_meas i (mx + 1) HIM.out
    · have d1 : decide (i < la) = false := decide_eq_false ha
      have HX := Lib.hid (show (dg m).getD i 0 = 0 by rw [List.getD_eq_getElem?_getD, List.getElem?_eq_none (by have := HL.out; omega)]; rfl)
      by_cases hb : i < lb
      · have d2 : decide (i < lb) = true := decide_eq_true hb
        have HIM := Lib.hid (show i < mx + 1 by have := HL.out; omega)
        have hbl : i < (dg n).length := by have := HL.out; omega
        obtain ⟨b2, o2, e2, hy⟩ := (HV.out.fr hO.ch).at hbl
        subst e2
        have HY := Lib.hid (show (dg n).getD i 0 = (dg n)[i] by rw [List.getD_eq_getElem?_getD, List.getElem?_eq_getElem hbl]; rfl)
        have k3 : (i : Int) < (lb : Int) := Int.ofNat_lt.2 hb
        generalize (dg n)[i] = y at *
        obtain ⟨s, hs⟩ : ∃ s, k + y = s := ⟨_, rfl⟩
        have HS := Lib.hid (show s = k + (dg m).getD i 0 + (dg n).getD i 0 by rw [HX.out, HY.out]; omega)
        have u2 := u64_add k y s hs (by have h2 := getD_dig (dg_dig n) i; have h3 := HP.out.c1; rw [HY.out] at h2; omega)
        clear ha hb hbl hs hO hlast him
        have HPN := Lib.hid (HP.out.step (dg_dig m) (dg_dig n) (s := s) (by exact HS.out.symm))
        have hsb : s ≤ 131071 := by have h1 := getD_dig (dg_dig m) i; have h2 := getD_dig (dg_dig n) i; have h3 := HP.out.c1; have h4 := HS.out; omega
        obtain ⟨t1, t2, t3, t4⟩ := dig_facts s (by omega)
        have HNX := Lib.hid (show i + 1 = mx + 1 → s / 65536 = 0 from fun e => by have := HL.out; have := HIM.out; omega)
        have HDB := Lib.hid (show s % 65536 < 65536 ∧ s / 65536 ≤ 1 by omega)
        obtain ⟨d, hd⟩ : ∃ d, s % 65536 = d := ⟨_, rfl⟩
        obtain ⟨c', hc'⟩ : ∃ c', s / 65536 = c' := ⟨_, rfl⟩
        rw [hd] at t1 t3 HPN HDB
        rw [hc'] at t2 t4 HPN HNX HDB
        have HFIT := Lib.hid (show i + 1 ≤ maxLen ∧ (i + 1) * 8 ≤ 140737488355328 by have := HL.out; have := HIM.out; unfold maxLen; omega)
        have HLE := Lib.hid (show w.heap.size ≤ (wr.alloc (.cells #[.int .u64 (d : Int)] 148)).heap.size by have := HO.out.ch.size; simp; omega)
        have kw : IntKind.i64.wrap ((i : Int) + 1) = (i : Int) + 1 := IntWalk.i64_in _ (by have := HL.out; have := HIM.out; omega)
        clear hsb hd hc'
        go_wp2_with (at_builtin; refine wpList_append_own_any rfl (.tmp 44) (.tmp 47) 122 rfl w.heap.size 148 i0 (.int .u64 0) 1 8 Try.underlying122 hi hz0 hz1 hz2 rfl (by decide) (.slice oa i oc) i (o.map U) rfl (HO.out.own.alloc _) (some ⟨wr.heap.size, 0, none⟩) 1 1 [.int .u64 (d : Int)] rfl rfl (fun j u hu => ⟨_, rfl, cell_one_new wr _ _ j u hu⟩) (by simp [Value.oneCell']) HFIT.out.1 HFIT.out.2 HLE.out ?_; intro v2 w2 hown2 hg2 _ hO2; obtain ⟨a2, L2, c2, rfl, hL2⟩ := owns_name hown2)
        rw [hL2.out] at hown2
        have hDG := HO.out.more hown2 hg2
        go_roundw
        case rel => exact ⟨i + 1, c', o ++ [d], a2, c2, by have := HIM.out; omega, congrArg (Value.int IntKind.i64) (Int.natCast_succ i).symm, rfl, by rw [hL2.out], hDG, HPN.out, HNX.out⟩
        case measure => exact fit_meas i (mx + 1) HIM.out
      · have d2 : decide (i < lb) = false := decide_eq_false hb
        have HY := Lib.hid (show (dg n).getD i 0 = 0 by rw [List.getD_eq_getElem?_getD, List.getElem?_eq_none (by have := HL.out; omega)]; rfl)
        by_cases hc : 0 < k
        · have d3 : decide (0 < k) = true := decide_eq_true hc
          have HIM := Lib.hid (show i < mx + 1 by
            rcases Nat.lt_or_eq_of_le him with h | h
            · exact h
            · have := hlast h; omega)
          obtain ⟨s, hs⟩ : ∃ s, s = k := ⟨_, rfl⟩
          subst hs
          have HS := Lib.hid (show s = s + (dg m).getD i 0 + (dg n).getD i 0 by rw [HX.out, HY.out]; omega)
          clear ha hb hc hO hlast him
          have HPN := Lib.hid (HP.out.step (dg_dig m) (dg_dig n) (s := s) (by exact HS.out.symm))
          have hsb : s ≤ 131071 := by have h1 := getD_dig (dg_dig m) i; have h2 := getD_dig (dg_dig n) i; have h3 := HP.out.c1; have h4 := HS.out; omega
          obtain ⟨t1, t2, t3, t4⟩ := dig_facts s (by omega)
          have HNX := Lib.hid (show i + 1 = mx + 1 → s / 65536 = 0 from fun e => by have := HP.out.c1; omega)
          have HDB := Lib.hid (show s % 65536 < 65536 ∧ s / 65536 ≤ 1 by omega)
          obtain ⟨d, hd⟩ : ∃ d, s % 65536 = d := ⟨_, rfl⟩
          obtain ⟨c', hc'⟩ : ∃ c', s / 65536 = c' := ⟨_, rfl⟩
          rw [hd] at t1 t3 HPN HDB
          rw [hc'] at t2 t4 HPN HNX HDB
          have HFIT := Lib.hid (show i + 1 ≤ maxLen ∧ (i + 1) * 8 ≤ 140737488355328 by have := HL.out; have := HIM.out; unfold maxLen; omega)
          have HLE := Lib.hid (show w.heap.size ≤ (wr.alloc (.cells #[.int .u64 (d : Int)] 148)).heap.size by have := HO.out.ch.size; simp; omega)
          have kw : IntKind.i64.wrap ((i : Int) + 1) = (i : Int) + 1 := IntWalk.i64_in _ (by have := HL.out; have := HIM.out; omega)
          clear hsb hd hc'
          go_wp2_with (at_builtin; refine wpList_append_own_any rfl (.tmp 44) (.tmp 47) 122 rfl w.heap.size 148 i0 (.int .u64 0) 1 8 Try.underlying122 hi hz0 hz1 hz2 rfl (by decide) (.slice oa i oc) i (o.map U) rfl (HO.out.own.alloc _) (some ⟨wr.heap.size, 0, none⟩) 1 1 [.int .u64 (d : Int)] rfl rfl (fun j u hu => ⟨_, rfl, cell_one_new wr _ _ j u hu⟩) (by simp [Value.oneCell']) HFIT.out.1 HFIT.out.2 HLE.out ?_; intro v2 w2 hown2 hg2 _ hO2; obtain ⟨a2, L2, c2, rfl, hL2⟩ := owns_name hown2)
          rw [hL2.out] at hown2
          have hDG := HO.out.more hown2 hg2
          go_roundw
          case rel => exact ⟨i + 1, c', o ++ [d], a2, c2, by have := HIM.out; omega, congrArg (Value.int IntKind.i64) (Int.natCast_succ i).symm, rfl, by rw [hL2.out], hDG, HPN.out, HNX.out⟩
          case measure => exact fit_meas i (mx + 1) HIM.out
        · have d3 : decide (0 < k) = false := decide_eq_false hc
          obtain rfl : k = 0 := by omega
          have HV2 := Lib.hid (HP.out.done (by have := HL.out; omega) (by have := HL.out; omega))
          have hsh := r12short_any _ o wr hO.lu HP.out.dig (by rw [HP.out.len]; have := HL.out; omega)
          rw [HV2.out, vl_dg, vl_dg] at hsh
          unfold GaveLu at hsh
          clear ha hb hc hlast him hO
          go_wp2_with fail
          refine hsh.mono ?_
          clear hsh
          rintro e9 w2 ⟨a2, c2, rfl, hS2, hC2⟩
          go_wp2
          go_ret
          exact ⟨a2, c2, rfl, hS2, HO.out.ch.tr hC2⟩
end Go.Proofs.Ytjmlekdgipinfaa
