/- The document's numbers: Of, Add, less. -/
import Derived.Test.YtjmlekdgipinfaaMp12
import Derived.Deep.RegionHeld3
namespace Go.Proofs.Ytjmlekdgipinfaa
open Go.RowKit Go.Shelf

def BigV (w : World) (v : Value) (b : Bool) (m : Nat) : Prop := ∃ vs, v = .agg #[.bool b, vs] ∧ Lu w vs (dg m)
theorem BigV.fr {w w' : World} {v : Value} {b : Bool} {m : Nat} (h : BigV w v b m) (hC : Chg (fun _ => False) w w') : BigV w' v b m := by
  obtain ⟨vs, e, h1⟩ := h
  exact ⟨vs, e, h1.fr hC⟩
def GaveBg (w : World) (p : Bool × Nat) (e : Ending) (w' : World) : Prop := ∃ v, e = .returned v ∧ BigV w' v p.1 p.2 ∧ Chg (fun _ => False) w w'
theorem b2_cells (w : World) (x y : Value) (t : TypeId) : (w.alloc (.cells #[x, y] t)).cell? ⟨w.heap.size, 0, none⟩ = some x ∧ (w.alloc (.cells #[x, y] t)).cell? ⟨w.heap.size, 1, none⟩ = some y := ⟨new_cell w _ _ rfl, new_cell w _ _ rfl⟩
theorem b2_set {w : World} {g : Nat} {z0 z1 : Value} (a b : Value) (h0 : w.cell? ⟨g, 0, none⟩ = some z0) (h1 : w.cell? ⟨g, 1, none⟩ = some z1) :
    ((w.setCell ⟨g, 0, none⟩ a).setCell ⟨g, 1, none⟩ b).cell? ⟨g, 0, none⟩ = some a ∧ ((w.setCell ⟨g, 0, none⟩ a).setCell ⟨g, 1, none⟩ b).cell? ⟨g, 1, none⟩ = some b := by
  refine ⟨?_, ?_⟩
  · rw [World.cell?_setCell_other _ _ _ _ (by simp)]
    exact World.cell?_setCell_same' _ _ _ (by rw [h0]; rfl)
  · refine World.cell?_setCell_same' _ _ _ ?_
    rw [World.cell?_setCell_other _ _ _ _ (by simp), h1]
    rfl
theorem lu_set2 {w : World} {g : Nat} {vs : Value} {ds : List Nat} {x : Bool} {oa : Option Addr} {on oc : Nat} (h : Lu w vs ds) (h0 : w.cell? ⟨g, 0, none⟩ = some (.bool x)) (h1 : w.cell? ⟨g, 1, none⟩ = some (.slice oa on oc)) (a b : Value) : Lu ((w.setCell ⟨g, 0, none⟩ a).setCell ⟨g, 1, none⟩ b) vs ds := by
  refine ⟨h.1, fun j u hu => ?_⟩
  obtain ⟨b2, o, c, e, hc⟩ := Sl.cells h j u hu
  obtain ⟨d, rfl⟩ : ∃ d, u = U d := by
    rw [List.getElem?_map] at hu
    cases hd : ds[j]? with
    | none => rw [hd] at hu; cases hu
    | some d => rw [hd] at hu; exact ⟨d, (Option.some.inj hu).symm⟩
  refine ⟨b2, o, c, e, ?_⟩
  have n0 : (⟨b2, o + j, none⟩ : Addr) ≠ ⟨g, 0, none⟩ := fun e => by rw [e, h0] at hc; injection hc with hc; unfold U at hc; cases hc
  have n1 : (⟨b2, o + j, none⟩ : Addr) ≠ ⟨g, 1, none⟩ := fun e => by rw [e, h1] at hc; injection hc with hc; unfold U at hc; cases hc
  rw [World.cell?_setCell_other _ _ _ _ n1.symm, World.cell?_setCell_other _ _ _ _ n0.symm]
  exact hc
/-- The answer's box is new, and holds the answer. -/
theorem big_leave {w w0 w' : World} {g m : Nat} {x b : Bool} {oa : Option Addr} {on oc : Nat} {vs : Value} (hC : Chg (fun _ => False) w w0) (hg : w.heap.size ≤ g) (h0 : w0.cell? ⟨g, 0, none⟩ = some (.bool x)) (h1 : w0.cell? ⟨g, 1, none⟩ = some (.slice oa on oc)) (h : Lu w0 vs (dg m))
    (e : w' = (w0.setCell ⟨g, 0, none⟩ (.bool b)).setCell ⟨g, 1, none⟩ vs ∨ w' = ((w0.setCell ⟨g, 0, none⟩ (.bool b)).setCell ⟨g, 1, none⟩ vs).drew) :
    BigV w' (.agg #[.bool b, vs]) b m ∧ Chg (fun _ => False) w w' := by
  have hL := lu_set2 h h0 h1 (.bool b) vs
  have hS := ((hC.setCell (p := ⟨g, 0, none⟩) (.inr hg) (.bool b))).setCell (p := ⟨g, 1, none⟩) (.inr hg) vs
  rcases e with rfl | rfl
  · exact ⟨⟨_, rfl, hL⟩, hS⟩
  · exact ⟨⟨_, rfl, hL.fr ((Chg.refl _ _).drew)⟩, hS.drew⟩
/-- A number's digits under way: o so far, u to come. -/
structure OfI (N : Nat) (o : List Nat) (i u : Nat) : Prop where
  len : o.length = i
  dig : Dig o
  eq : vl o + pw i * u = N
  ub : u ≤ 9223372036854775808
theorem OfI.step {N : Nat} {o : List Nat} {i u : Nat} (h : OfI N o i u) : OfI N (o ++ [u % 65536]) (i + 1) (u / 65536) := by
  obtain ⟨h1, h2, h3, h4⟩ := h
  refine ⟨by rw [List.length_append, h1]; rfl, dig_snoc h2 (Nat.mod_lt _ (by decide)), ?_, by omega⟩
  rw [vl_snoc, h1, pw_succ]
  have h7 : pw i * u = pw i * (u % 65536) + 65536 * pw i * (u / 65536) := by
    conv => lhs; rw [← Nat.mod_add_div u 65536]
    rw [Nat.mul_add, ← Nat.mul_assoc, Nat.mul_comm (pw i) 65536]
  omega
theorem OfI.done {N : Nat} {o : List Nat} {u : Nat} (h : OfI N o 4 u) (hN : N ≤ 9223372036854775808) : vl o = N := by
  have h3 := h.eq
  have h4 : pw 4 = 18446744073709551616 := by decide
  rw [h4] at h3
  omega
set_option maxHeartbeats 4000000 in
theorem r12of_any (n : Int) (hn : In n) (w : World) : Calls Try.prog 102 #[.int .i64 n] w (GaveBg w (decide (n < 0), n.natAbs)) := by
  unfold In at hn
  obtain ⟨N, hN⟩ : ∃ N, n.natAbs = N := ⟨_, rfl⟩
  have HNB := Lib.hid (show N ≤ 9223372036854775808 by omega)
  obtain ⟨bx, hbx⟩ : ∃ b, decide (n < 0) = b := ⟨_, rfl⟩
  have HC0 := Lib.hid ((Chg.refl (fun _ => False) w).alloc (.cells #[.bool false, .slice none 0 0] 124))
  obtain ⟨c0, c1⟩ := b2_cells w (.bool false) (.slice none 0 0) 124
  have f0 := new_frozen w #[.bool false, .slice none 0 0] 124 0
  have f1 := new_frozen w #[.bool false, .slice none 0 0] 124 1
  obtain ⟨i0, hi, hz0, hz1, hz2⟩ := info_parts info_u64
  rw [hN, hbx]
  have key : ∃ u : Int, IntKind.u64.wrap n = u ∧ ((bx = false ∧ u = (N : Int)) ∨ (bx = true ∧ IntKind.u64.wrap (-u) = (N : Int))) := by
    refine ⟨_, rfl, ?_⟩
    cases bx with
    | false =>
      have : ¬ n < 0 := of_decide_eq_false hbx
      exact .inl ⟨rfl, (IntWalk.u64_in _ (by omega)).trans (by omega)⟩
    | true =>
      have : n < 0 := of_decide_eq_true hbx
      refine .inr ⟨rfl, ?_⟩
      have h1 : IntKind.u64.wrap n = n + 18446744073709551616 := by rw [IntKind.wrap_u64]; omega
      rw [h1, IntKind.wrap_u64]
      omega
  have HBX := Lib.hid hbx
  clear hN hn hbx
  obtain ⟨u, hu, hk⟩ := key
  rcases hk with ⟨rfl, rfl⟩ | ⟨rfl, hneg⟩
  · have d0 : decide (n < 0) = false := HBX.out
    go_enter Try.func102, Try.ntmps102
    go_wp2
    clear hu
    go_loopw [3, 4, 5] (fun v3 v4 v5 wr => ∃ (i u : Nat) (o : List Nat) (oa : Option Addr) (oc : Nat), i ≤ 4 ∧ v5 = .int .i64 i ∧ v3 = .int .u64 (u : Int) ∧ v4 = .slice oa i oc ∧ Dgs (w.alloc (.cells #[.bool false, .slice none 0 0] 124)) wr oa i oc o ∧ OfI N o i u) (fun _ _ v5 _ => 4 - (intOf v5).toNat)
    case atStart => exact ⟨0, N, [], none, 0, by omega, rfl, rfl, rfl, Dgs.start _, ⟨rfl, fun d h => absurd h (by simp), by simp [vl, pw], HNB.out⟩⟩
    case round =>
      obtain ⟨i, u, o, oa, oc, him, rfl, rfl, rfl, hO, hP⟩ := hrel
      have HO := Lib.hid hO
      have HP := Lib.hid hP
      by_cases h4 : i < 4
      · have d4 : decide ((i : Int) < 4) = true := decide_eq_true (by omega)
        have HIM := Lib.hid h4
        have HPN := Lib.hid hP.step
        obtain ⟨t1, t2, t3, t4⟩ := dig_facts u (by have := hP.ub; omega)
        obtain ⟨d, hd⟩ : ∃ d, u % 65536 = d := ⟨_, rfl⟩
        obtain ⟨c', hc'⟩ : ∃ c', u / 65536 = c' := ⟨_, rfl⟩
        rw [hd] at t1 t3 HPN
        rw [hc'] at t2 t4 HPN
        have HFIT := Lib.hid (show i + 1 ≤ maxLen ∧ (i + 1) * 8 ≤ 140737488355328 by unfold maxLen; omega)
        have HLE := Lib.hid (show (w.alloc (.cells #[.bool false, .slice none 0 0] 124)).heap.size ≤ (wr.alloc (.cells #[.int .u64 (d : Int)] 148)).heap.size by have := hO.ch.size; simp at this ⊢; omega)
        have kw : IntKind.i64.wrap ((i : Int) + 1) = (i : Int) + 1 := IntWalk.i64_in _ (by omega)
        clear hd hc' h4 him hO hP
        go_wp2_with (at_builtin; refine wpList_append_own_any rfl (.tmp 16) (.tmp 19) 122 rfl (w.alloc (.cells #[.bool false, .slice none 0 0] 124)).heap.size 148 i0 (.int .u64 0) 1 8 Try.underlying122 hi hz0 hz1 hz2 rfl (by decide) (.slice oa i oc) i (o.map U) rfl (HO.out.own.alloc _) (some ⟨wr.heap.size, 0, none⟩) 1 1 [.int .u64 (d : Int)] rfl rfl (fun j u hu => ⟨_, rfl, cell_one_new wr _ _ j u hu⟩) (by simp [Value.oneCell']) HFIT.out.1 HFIT.out.2 HLE.out ?_; intro v2 w2 hown2 hg2 _ hO2; obtain ⟨a2, L2, c2, rfl, hL2⟩ := owns_name hown2)
        rw [hL2.out] at hown2
        have hDG := HO.out.more hown2 hg2
        go_roundw
        case rel => exact ⟨i + 1, c', o ++ [d], a2, c2, HIM.out, congrArg (Value.int IntKind.i64) (Int.natCast_succ i).symm, rfl, by rw [hL2.out], hDG, HPN.out⟩
        case measure => exact fit_meas i 4 HIM.out
      · obtain rfl : i = 4 := by omega
        have HV2 := Lib.hid (hP.done HNB.out)
        have hsh := r12short_any _ o wr hO.lu hP.dig (by rw [hP.len]; decide)
        rw [HV2.out] at hsh
        unfold GaveLu at hsh
        replace c0 := hO.ch.cell c0 id
        replace c1 := hO.ch.cell c1 id
        replace f0 := hO.ch.frozen (b2_cells w (.bool false) (.slice none 0 0) 124).1 f0 id
        replace f1 := hO.ch.frozen (b2_cells w (.bool false) (.slice none 0 0) 124).2 f1 id
        clear h4 him hO hP
        go_wp2_with fail
        refine hsh.mono ?_
        clear hsh
        rintro e9 w2 ⟨a2, c2, rfl, hS2, hC2⟩
        replace f0 := hC2.frozen c0 f0 id
        replace f1 := hC2.frozen c1 f1 id
        replace c0 := hC2.cell c0 id
        replace c1 := hC2.cell c1 id
        have HS2 := Lib.hid hS2
        have HCW := Lib.hid ((HC0.out.tr HO.out.ch).tr hC2)
        clear hS2 hC2
        go_wp2
        obtain ⟨g0, g1⟩ := b2_set (.bool false) (.slice a2 (dg N).length c2) c0 c1
        simp [bodyPost, results, Try.results102, go_sem, g0, g1]
        obtain ⟨l1, l2⟩ := big_leave (b := false) HCW.out (Nat.le_refl _) c0 c1 HS2.out (.inl rfl)
        exact ⟨_, rfl, l1, l2⟩
  · have d0 : decide (n < 0) = true := HBX.out
    go_enter Try.func102, Try.ntmps102
    go_wp2
    clear hu hneg
    go_loopw [3, 4, 5] (fun v3 v4 v5 wr => ∃ (i u : Nat) (o : List Nat) (oa : Option Addr) (oc : Nat), i ≤ 4 ∧ v5 = .int .i64 i ∧ v3 = .int .u64 (u : Int) ∧ v4 = .slice oa i oc ∧ Dgs (w.alloc (.cells #[.bool false, .slice none 0 0] 124)) wr oa i oc o ∧ OfI N o i u) (fun _ _ v5 _ => 4 - (intOf v5).toNat)
    case atStart => exact ⟨0, N, [], none, 0, by omega, rfl, rfl, rfl, Dgs.start _, ⟨rfl, fun d h => absurd h (by simp), by simp [vl, pw], HNB.out⟩⟩
    case round =>
      obtain ⟨i, u, o, oa, oc, him, rfl, rfl, rfl, hO, hP⟩ := hrel
      have HO := Lib.hid hO
      have HP := Lib.hid hP
      by_cases h4 : i < 4
      · have d4 : decide ((i : Int) < 4) = true := decide_eq_true (by omega)
        have HIM := Lib.hid h4
        have HPN := Lib.hid hP.step
        obtain ⟨t1, t2, t3, t4⟩ := dig_facts u (by have := hP.ub; omega)
        obtain ⟨d, hd⟩ : ∃ d, u % 65536 = d := ⟨_, rfl⟩
        obtain ⟨c', hc'⟩ : ∃ c', u / 65536 = c' := ⟨_, rfl⟩
        rw [hd] at t1 t3 HPN
        rw [hc'] at t2 t4 HPN
        have HFIT := Lib.hid (show i + 1 ≤ maxLen ∧ (i + 1) * 8 ≤ 140737488355328 by unfold maxLen; omega)
        have HLE := Lib.hid (show (w.alloc (.cells #[.bool false, .slice none 0 0] 124)).heap.size ≤ (wr.alloc (.cells #[.int .u64 (d : Int)] 148)).heap.size by have := hO.ch.size; simp at this ⊢; omega)
        have kw : IntKind.i64.wrap ((i : Int) + 1) = (i : Int) + 1 := IntWalk.i64_in _ (by omega)
        clear hd hc' h4 him hO hP
        go_wp2_with (at_builtin; refine wpList_append_own_any rfl (.tmp 16) (.tmp 19) 122 rfl (w.alloc (.cells #[.bool false, .slice none 0 0] 124)).heap.size 148 i0 (.int .u64 0) 1 8 Try.underlying122 hi hz0 hz1 hz2 rfl (by decide) (.slice oa i oc) i (o.map U) rfl (HO.out.own.alloc _) (some ⟨wr.heap.size, 0, none⟩) 1 1 [.int .u64 (d : Int)] rfl rfl (fun j u hu => ⟨_, rfl, cell_one_new wr _ _ j u hu⟩) (by simp [Value.oneCell']) HFIT.out.1 HFIT.out.2 HLE.out ?_; intro v2 w2 hown2 hg2 _ hO2; obtain ⟨a2, L2, c2, rfl, hL2⟩ := owns_name hown2)
        rw [hL2.out] at hown2
        have hDG := HO.out.more hown2 hg2
        go_roundw
        case rel => exact ⟨i + 1, c', o ++ [d], a2, c2, HIM.out, congrArg (Value.int IntKind.i64) (Int.natCast_succ i).symm, rfl, by rw [hL2.out], hDG, HPN.out⟩
        case measure => exact fit_meas i 4 HIM.out
      · obtain rfl : i = 4 := by omega
        have HV2 := Lib.hid (hP.done HNB.out)
        have hsh := r12short_any _ o wr hO.lu hP.dig (by rw [hP.len]; decide)
        rw [HV2.out] at hsh
        unfold GaveLu at hsh
        replace c0 := hO.ch.cell c0 id
        replace c1 := hO.ch.cell c1 id
        replace f0 := hO.ch.frozen (b2_cells w (.bool false) (.slice none 0 0) 124).1 f0 id
        replace f1 := hO.ch.frozen (b2_cells w (.bool false) (.slice none 0 0) 124).2 f1 id
        clear h4 him hO hP
        go_wp2_with fail
        refine hsh.mono ?_
        clear hsh
        rintro e9 w2 ⟨a2, c2, rfl, hS2, hC2⟩
        replace f0 := hC2.frozen c0 f0 id
        replace f1 := hC2.frozen c1 f1 id
        replace c0 := hC2.cell c0 id
        replace c1 := hC2.cell c1 id
        have HS2 := Lib.hid hS2
        have HCW := Lib.hid ((HC0.out.tr HO.out.ch).tr hC2)
        clear hS2 hC2
        go_wp2
        obtain ⟨g0, g1⟩ := b2_set (.bool true) (.slice a2 (dg N).length c2) c0 c1
        simp [bodyPost, results, Try.results102, go_sem, g0, g1]
        obtain ⟨l1, l2⟩ := big_leave (b := true) HCW.out (Nat.le_refl _) c0 c1 HS2.out (.inl rfl)
        exact ⟨_, rfl, l1, l2⟩
end Go.Proofs.Ytjmlekdgipinfaa
