/- pick: the axes, the last one first; how many, and where. -/
import Derived.Test.YtnjnajbdpaaikaaPlA
import Derived.Test.YtnjnajbdpaaikaaRangeKp
import Derived.Test.YtnjnajbdpaaikaaIn
import Derived.Stop.RegionWithIn
namespace Go.Proofs.Ytnjnajbdpaaikaa
open Go.RowKit Go.Shelf

def PxOk (y : Px) : Prop := (0 < mnP y ∧ mnP y ≤ 4096) ∧ (0 ≤ y.l ∧ y.l ≤ 4096) ∧ rgtP y = true
theorem mn_all {y : Px} (h : y.all = true) : mnP y = y.l := by unfold mnP; rw [h]; rfl
theorem mn_not {y : Px} (h : y.all = false) : mnP y = (y.e.length : Int) := by unfold mnP; rw [h]; rfl
theorem plP_bd {y : Px} {k : Int} (h : rgtP y = true) (h0 : 0 ≤ k) (h1 : k < mnP y) : 0 ≤ plP y k ∧ plP y k < y.l := by
  unfold rgtP at h
  unfold plP
  cases hx : y.all with
  | true =>
    rw [mn_all hx] at h1
    exact ⟨h0, h1⟩
  | false =>
    rw [mn_not hx] at h1
    rw [hx] at h
    simp only [Bool.false_or, Bool.not_eq_true'] at h
    obtain ⟨j, rfl⟩ := Int.eq_ofNat_of_zero_le h0
    have hj : j < y.e.length := by omega
    have hg : y.e.getD j 0 = y.e[j] := by simp [List.getD, hj]
    have h2 := List.any_eq_false.1 h _ (List.getElem_mem hj)
    simp only [Bool.false_eq_true, if_false]
    rw [show ((j : Int)).toNat = j from rfl, hg]
    simp at h2
    omega
set_option maxHeartbeats 400000 in
theorem many_any (v : Value) (y : Px) (w : World) (h : PxVal w v y) : Calls Try.prog 73 #[v] w (GaveI w (mnP y)) := by
  obtain ⟨ve, rfl, he⟩ := h
  obtain ⟨ea, ce, rfl, _⟩ := he.form
  have hC0 := (Chg.refl (fun _ => False) w).alloc (.cells #[.int .i64 y.l, .bool y.all, .slice ea y.e.length ce] 102)
  obtain ⟨c0, c1, c2⟩ := cell_two w (.int .i64 y.l) (.bool y.all) (.slice ea y.e.length ce) 102
  clear he
  cases ha : y.all with
  | true =>
    rw [mn_all ha]
    rw [ha] at hC0 c0 c1 c2
    clear ha
    go_enter Try.func73, Try.ntmps73
    go_wp2
    go_ret
    exact ⟨rfl, hC0⟩
  | false =>
    rw [mn_not ha]
    rw [ha] at hC0 c0 c1 c2
    clear ha
    go_enter Try.func73, Try.ntmps73
    go_wp2
    go_ret
    exact ⟨rfl, hC0⟩
set_option maxHeartbeats 400000 in
theorem place_any (v : Value) (y : Px) (k : Nat) (w : World) (h : PxVal w v y) (hr : rgtP y = true) (hl : y.l ≤ 4096) (hk : (k : Int) < mnP y) : Calls Try.prog 72 #[v, .int .i64 (k : Int)] w (GaveI w (plP y (k : Int))) := by
  have hbd := plP_bd hr (show (0 : Int) ≤ (k : Int) by omega) hk
  obtain ⟨ve, rfl, he⟩ := h
  obtain ⟨ea, ce, rfl, _⟩ := he.form
  have hC0 := (Chg.refl (fun _ => False) w).alloc (.cells #[.int .i64 y.l, .bool y.all, .slice ea y.e.length ce] 102)
  obtain ⟨c0, c1, c2⟩ := cell_two w (.int .i64 y.l) (.bool y.all) (.slice ea y.e.length ce) 102
  cases ha : y.all with
  | true =>
    have hp : plP y (k : Int) = (k : Int) := by unfold plP; rw [ha]; rfl
    rw [hp]
    rw [ha] at hC0 c0 c1 c2
    clear ha hp he hbd hk hr
    go_enter Try.func72, Try.ntmps72
    go_wp2
    go_ret
    exact ⟨rfl, hC0⟩
  | false =>
    rw [mn_not ha] at hk
    have hk2 : k < y.e.length := by omega
    have hp : plP y (k : Int) = y.e[k] - 1 := by
      unfold plP
      rw [ha]
      simp [List.getD, hk2]
    rw [hp] at hbd ⊢
    rw [ha] at hC0 c0 c1 c2
    obtain ⟨bb, oo, cc, e1, hcell⟩ := (he.fr hC0).at hk2
    injection e1 with e1 e2 e3
    subst e1
    clear e2 e3
    generalize y.e[k] = z at *
    have k1 : IntKind.i64.wrap (z - 1) = z - 1 := IntWalk.i64_in _ (by omega)
    have i0 : (0 : Int) ≤ (k : Int) := by omega
    clear ha hp he hr hk2
    go_enter Try.func72, Try.ntmps72
    go_wp2
    go_ret
    exact ⟨rfl, hC0⟩
theorem axes_any (ao : Option Addr) (n c : Nat) (w : World) : Calls Try.prog 71 #[.slice ao n c] w (fun e w' => e = .returned (.func (.func 95) #[] #[.pointer (some ⟨w.heap.size, 0, none⟩)]) ∧ w' = w.alloc (.cells #[.slice ao n c] 97)) := by
  go_enter Try.func71, Try.ntmps71
  go_wp2
  go_ret
  exact ⟨rfl, rfl⟩
/-- The values of the axes. -/
structure PxV where
  l : Int
  a : Bool
  sa : Option Addr
  m : Nat
  k : Nat
instance : Inhabited PxV := ⟨⟨0, false, none, 0, 0⟩⟩
def PxV.val (x : PxV) : Value := .agg #[.int .i64 x.l, .bool x.a, .slice x.sa x.m x.k]
def VsAt (W : World) (v : Value) (n : Nat) (VS : List PxV) : Prop := VS.length = n ∧ ∀ j, j < n → ∃ b o c l a sa m k, v = .slice (some ⟨b, o, none⟩) n c ∧ VS[j]? = some ⟨l, a, sa, m, k⟩ ∧ (W.cell? ⟨b, o + j * 3, none⟩ = some (.int .i64 l) ∧ W.cell? ⟨b, o + j * 3 + 1, none⟩ = some (.bool a) ∧ W.cell? ⟨b, o + j * 3 + 2, none⟩ = some (.slice sa m k))
def bxA (VS : List PxV) (t : Nat) : Nat × PxV := (VS.length - 1 - t, VS.getD (VS.length - 1 - t) default)
def bxL (VS : List PxV) : List (Nat × PxV) := (List.range VS.length).map (bxA VS)
theorem bxL_length (VS : List PxV) : (bxL VS).length = VS.length := by simp [bxL]
theorem bxL_succ (VS : List PxV) (t : Nat) (h : t < VS.length) : (bxL VS).take (t + 1) = (bxL VS).take t ++ [bxA VS t] := by
  rw [List.take_succ_eq_append_getElem (by rw [bxL_length]; exact h)]
  simp [bxL]
def encX (x : Nat × PxV) : Array Value := #[.int .i64 (x.1 : Int), x.2.val]
theorem pxs_vals {W : World} {v : Value} {L : List Px} (h : Pxs W v L) : ∃ VS, VsAt W v L.length VS ∧ ∀ j (h : j < L.length), ∃ u, VS[j]? = some u ∧ PxVal W u.val L[j] := by
  have each : ∀ j, j < L.length → ∃ u : PxV, (∃ b o c l a sa m k, v = .slice (some ⟨b, o, none⟩) L.length c ∧ u = ⟨l, a, sa, m, k⟩ ∧ (W.cell? ⟨b, o + j * 3, none⟩ = some (.int .i64 l) ∧ W.cell? ⟨b, o + j * 3 + 1, none⟩ = some (.bool a) ∧ W.cell? ⟨b, o + j * 3 + 2, none⟩ = some (.slice sa m k))) ∧ ∀ h : j < L.length, PxVal W u.val L[j] := by
    intro j hj
    obtain ⟨b, o, c, e, ve, ⟨c0, c1, c2⟩, he⟩ := h.cells j hj
    obtain ⟨ea, ce, rfl, _⟩ := he.form
    exact ⟨⟨_, _, _, _, _⟩, ⟨b, o, c, _, _, _, _, _, e, rfl, c0, c1, c2⟩, fun _ => ⟨_, rfl, he⟩⟩
  obtain ⟨Y, hY⟩ := Go.Deep.choose_lt each
  refine ⟨(List.range L.length).map Y, ⟨by simp, fun j hj => ?_⟩, fun j hj => ?_⟩
  · obtain ⟨b, o, c, l, a, sa, m, k, e, e2, hc⟩ := (hY j hj).1
    exact ⟨b, o, c, l, a, sa, m, k, e, by simp [hj, e2], hc⟩
  · exact ⟨Y j, by simp [hj], (hY j hj).2 hj⟩
set_option maxRecDepth 100000 in
set_option maxHeartbeats 1000000 in
theorem axes1_in (l b1 n c : Nat) (ao : Option Addr) (VS : List PxV) (hn2 : n ≤ 1000000) (R : Nat → Prop) (Ok : Nat × PxV → Prop) (hOk : ∀ t, t < n → Ok (bxA VS t)) (J Jx : List (Nat × PxV) → World → Prop)
    (hY : ∀ pre x W1, Ok x → J pre W1 → pre.length < n → YieldAt Fence.wide 6 Try.prog l (encX x) W1 fun e W' =>
      (e = .returned (.bool true) ∧ J (pre ++ [x]) W' ∧ Keep R W1 W') ∨ (e = .returned (.bool false) ∧ Jx (pre ++ [x]) W'))
    (w00 w0 : World) (hRl : ∀ q, q < w00.heap.size → R q) (hRb : R b1) (h00 : Chg (fun _ => False) w00 w0) (hb : w0.cell? ⟨b1, 0, none⟩ = some (.slice ao n c)) (hs : VsAt w00 (.slice ao n c) n VS) (W : World) (hW : ∀ q, R q → W.heap[q]? = w0.heap[q]?) (h0 : J [] W) :
    CallsIn Fence.wide 7 Try.prog 95 #[.func (.yield l) #[] #[], .pointer (some ⟨b1, 0, none⟩)] W fun e W' => (∃ v, e = .returned v) ∧
      ((∃ ys, ys = bxL VS ∧ J ys W') ∨ (∃ pre, (∃ q, q < n ∧ pre = (bxL VS).take (q + 1)) ∧ Jx pre W')) := by
  have hcell : ∀ (W : World), (∀ q, R q → W.heap[q]? = w0.heap[q]?) → ∀ (p : Addr) (v : Value), R p.block → w0.cell? p = some v → W.cell? p = some v := fun W h p v hr hc => (World.cell?_of_block (h p.block hr)).trans hc
  have hls : ∀ (W : World), (∀ q, R q → W.heap[q]? = w0.heap[q]?) → VsAt W (.slice ao n c) n VS := fun W h => ⟨hs.1, fun j hj => by
    obtain ⟨b, o, c, l, a, sa, m, k, e, e2, c0, c1, c2⟩ := hs.2 j hj
    exact ⟨b, o, c, l, a, sa, m, k, e, e2, hcell W h _ _ (hRl _ (cell_lt c0)) (h00.cell c0 id), hcell W h _ _ (hRl _ (cell_lt c1)) (h00.cell c1 id), hcell W h _ _ (hRl _ (cell_lt c2)) (h00.cell c2 id)⟩⟩
  have c1 := hcell W hW _ _ hRb hb
  have k1 : IntKind.i64.wrap ((n : Int) - 1) = (n : Int) - 1 := IntWalk.i64_in _ (by omega)
  have HLS := Lib.hid hls
  have HCL := Lib.hid (show ∀ (W : World), (∀ q, R q → W.heap[q]? = w0.heap[q]?) → W.cell? ⟨b1, 0, none⟩ = some (.slice ao n c) from fun W h => hcell W h _ _ hRb hb)
  have HY := Lib.hid hY
  have HOK := Lib.hid hOk
  have HN := Lib.hid hs.1
  have h1 : ∃ t i, (i : Int) = (n : Int) - 1 - (t : Nat) ∧ t ≤ n ∧ Value.int .i64 ((n : Int) - 1) = .int .i64 i ∧ J ((bxL VS).take t) W ∧ (∀ q, R q → W.heap[q]? = w0.heap[q]?) := ⟨0, (n : Int) - 1, by omega, Nat.zero_le _, rfl, h0, hW⟩
  have H1 := Lib.hid h1
  clear hcell hls hY hOk hRl hRb h00 hb hs hW h0 h1
  (refine callsIn_of_wp Try.func95 rfl trivial ?_ rfl; simp only [Try.ntmps95, List.size_toArray, List.length_cons, List.length_nil, Nat.reduceAdd, Nat.reduceSub, Array.replicate_succ, Array.replicate_zero, List.push_toArray, List.append_toArray, List.nil_append, List.cons_append])
  refine wpIn_wide.2 ?_
  go_wp2
  refine (wpIn_wide (n := 7)).1 ?_
  clear k1 c1
  gi_loopw [3] (fun v wr => ∃ t i, (i : Int) = (n : Int) - 1 - (t : Nat) ∧ t ≤ n ∧ v = .int .i64 i ∧ J ((bxL VS).take t) wr ∧ (∀ q, R q → wr.heap[q]? = w0.heap[q]?)) (fun v _ => (intOf v + 1).toNat)
  case atStart => exact H1.out
  case round =>
    obtain ⟨t, i, hi, ht, rfl, hJs, hsm⟩ := hrel
    clear H1
    by_cases hlt : t < n
    · obtain ⟨m, rfl⟩ := Int.eq_ofNat_of_zero_le (show 0 ≤ i by omega)
      have hm : n - 1 - t = m := by omega
      have hmn : m < n := by omega
      obtain ⟨bb, oo, cc, yl, ya, sa, sm, sk, e1, e2, d0, d1, d2⟩ := (HLS.out _ hsm).2 m hmn
      have hA : bxA VS t = (m, ⟨yl, ya, sa, sm, sk⟩) := by
        unfold bxA
        rw [HN.out, hm]
        simp [List.getD, e2]
      injection e1 with e1 e3 e4
      clear e3 e4 e2
      subst e1
      have i1 : (0 : Int) ≤ (m : Int) := by omega
      have i2 : (m : Int) < (n : Int) := by omega
      have k1 : IntKind.i64.wrap ((m : Int) - 1) = (m : Int) - 1 := IntWalk.i64_in _ (by omega)
      have c1 := HCL.out _ hsm
      have hok := HOK.out t hlt
      have hsn := bxL_succ VS t (by rw [HN.out]; exact hlt)
      rw [hA] at hok hsn
      have hl8 : ((bxL VS).take t).length < n := by rw [List.length_take, bxL_length, HN.out]; omega
      obtain ⟨fn, tmps, assign, body, hy, hRd⟩ := HY.out ((bxL VS).take t) (m, ⟨yl, ya, sa, sm, sk⟩) wr hok hJs hl8
      simp only [encX, PxV.val] at hy
      have HSN := Lib.hid hsn
      have HSM := Lib.hid hsm
      have HJ := Lib.hid (And.intro hi (And.intro hlt hm))
      clear hi hm hA hok hsn hl8 hlt ht hJs hsm hmn
      gi_wp2
      refine hRd.mono ?_
      rintro e W3 (⟨rfl, hJ3, hk3⟩ | ⟨rfl, hJx3⟩)
      · gi_wp2
        go_roundw
        case rel => exact ⟨t + 1, (m : Int) - 1, by have := HJ.out; omega, by have := HJ.out; omega, rfl, by rw [HSN.out]; exact hJ3, fun q hq => (hk3.same q hq).trans (HSM.out q hq)⟩
        case measure =>
          simp only [intOf]
          omega
      · gi_wp2
        refine bodyPost_ret (results_none rfl _ _ _) rfl ?_
        exact ⟨⟨_, rfl⟩, .inr ⟨_, ⟨t, HJ.out.2.1, HSN.out.symm⟩, hJx3⟩⟩
    · obtain rfl : t = n := by omega
      obtain rfl : i = -1 := by omega
      have hJ2 : J (bxL VS) wr := by rw [List.take_of_length_le (by rw [bxL_length, HN.out]; exact Nat.le_refl _)] at hJs; exact hJs
      have HJ2 := Lib.hid hJ2
      clear hi ht hJs hsm hlt hJ2
      gi_wp2
      go_end0
      exact ⟨⟨_, rfl⟩, .inl ⟨_, rfl, HJ2.out⟩⟩
end Go.Proofs.Ytnjnajbdpaaikaa
