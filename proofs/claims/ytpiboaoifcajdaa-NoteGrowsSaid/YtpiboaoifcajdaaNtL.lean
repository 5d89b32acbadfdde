/- note.all: a log's notes, one by one. -/
import Derived.Test.YtpiboaoifcajdaaNtT
import Derived.Test.YtpiboaoifcajdaaRangeT
import Derived.Test.YtpiboaoifcajdaaIn
namespace Go.Proofs.Ytpiboaoifcajdaa
open Go.RowKit Go.Shelf
attribute [local go_sem] Oper.semAt_some

/-- Payloads: a list of lists of bytes. -/
def Pay (w : World) (v : Value) (ps : List (List UInt8)) : Prop := ∃ vs : List Value, Sl w v vs ∧ vs.length = ps.length ∧ ∀ (j : Nat) u xs, vs[j]? = some u → ps[j]? = some xs → Sl w u (xs.map B)
theorem Sl.same {w w' : World} {v : Value} {vs : List Value} (h : Sl w v vs) (hs : ∀ q, q < w.heap.size → w'.heap[q]? = w.heap[q]?) : Sl w' v vs :=
  ⟨h.form, fun j u hu => by obtain ⟨b, o, c, rfl, hc⟩ := h.cells j u hu; exact ⟨b, o, c, rfl, (World.cell?_of_block (hs b (cell_lt hc))).trans hc⟩⟩
theorem Pay.same {w w' : World} {v : Value} {ps : List (List UInt8)} (h : Pay w v ps) (hs : ∀ q, q < w.heap.size → w'.heap[q]? = w.heap[q]?) : Pay w' v ps := by
  obtain ⟨vs, h1, h2, h3⟩ := h
  exact ⟨vs, h1.same hs, h2, fun j u xs hu hx => (h3 j u xs hu hx).same hs⟩
theorem Pay.fr {w w' : World} {v : Value} {ps : List (List UInt8)} (h : Pay w v ps) (hC : Chg (fun _ => False) w w') : Pay w' v ps := h.same fun q hq => hC.block q hq id
def encP (p : Nat × List UInt8) : Array Value := #[.int .i64 (p.1 : Int), decV p.2]
/-- How many payloads, from the first on, are notes. -/
def goodN : List (List UInt8) → Nat
  | [] => 0
  | p :: r => if decE p = 0 then goodN r + 1 else 0
def enumP (ps : List (List UInt8)) (k : Nat) : List (Nat × List UInt8) := (List.range k).map fun i => (i, ps.getD i [])
theorem enumP_succ (ps : List (List UInt8)) (k : Nat) : enumP ps (k + 1) = enumP ps k ++ [(k, ps.getD k [])] := by simp [enumP, List.range_succ]
theorem enumP_length (ps : List (List UInt8)) (k : Nat) : (enumP ps k).length = k := by simp [enumP]
theorem goodN_le : ∀ ps, goodN ps ≤ ps.length
  | [] => Nat.le_refl _
  | p :: r => by
    unfold goodN
    have := goodN_le r
    split
    · rw [List.length_cons]; omega
    · exact Nat.zero_le _
theorem goodN_step : ∀ (ps : List (List UInt8)) (j : Nat), j ≤ goodN ps → j < ps.length → (decE (ps.getD j []) = 0 ↔ j < goodN ps)
  | [], _, _, h => by simp at h
  | p :: r, 0, _, _ => by
    unfold goodN
    by_cases h : decE p = 0
    · simp [h]
    · simp [h]
  | p :: r, j + 1, h, h2 => by
    unfold goodN at h ⊢
    by_cases hp : decE p = 0
    · rw [if_pos hp] at h ⊢
      have := goodN_step r j (by omega) (by rw [List.length_cons] at h2; omega)
      rw [List.getD_cons_succ, this]
      omega
    · rw [if_neg hp] at h
      omega
theorem all_any (ao : Option Addr) (n c : Nat) (w : World) : Calls Try.prog 39 #[.slice ao n c] w fun e w' => e = .returned (.func (.func 48) #[] #[.pointer (some ⟨w.heap.size, 0, none⟩)]) ∧ w' = w.alloc (.cells #[.slice ao n c] 36) := by
  go_enter Try.func39, Try.ntmps39
  go_wp2
  go_ret
  exact ⟨rfl, rfl⟩
theorem decV_note' (xs : List UInt8) : ∃ k a b n, decV xs = .agg #[.int .i64 k, .int .i64 a, .int .i64 b, .int .i64 n] := by
  unfold decV
  split
  · exact ⟨_, _, _, _, rfl⟩
  · exact ⟨_, _, _, _, rfl⟩
theorem fit_meas (j n : Nat) (h : j < n) : n - (intOf (.int .i64 ((j : Int) + 1))).toNat < n - (intOf (.int .i64 (j : Int))).toNat := by
  simp [intOf]
  omega
set_option maxRecDepth 100000 in
set_option maxHeartbeats 1000000 in
theorem all1_in (l b0 B0 : Nat) (ao : Option Addr) (n c : Nat) (ps : List (List UInt8)) (hn : ps.length = n) (hn2 : n ≤ 140737488355328) (hsm : ∀ xs ∈ ps, xs.length ≤ 140737488355328) (J Jx : List (Nat × List UInt8) → World → Prop)
    (hY : ∀ pre x W1, J pre W1 → pre.length < n → YieldAt Fence.wide 6 Try.prog l (encP x) W1 fun e W' =>
      (e = .returned (.bool true) ∧ J (pre ++ [x]) W' ∧ Keep (fun k => k < B0) W1 W') ∨ (e = .returned (.bool false) ∧ Jx (pre ++ [x]) W'))
    (w0 : World) (hB0 : w0.heap.size = B0) (hP : Pay w0 (.slice ao n c) ps) (W : World) (hW : ∀ q, q < B0 → W.heap[q]? = w0.heap[q]?) (hJ : AbidesT (fun _ => False) J) (hr : W.cell? ⟨b0, 0, none⟩ = some (.slice ao n c)) (h0 : J [] W) :
    CallsIn Fence.wide 7 Try.prog 48 #[.func (.yield l) #[] #[], .pointer (some ⟨b0, 0, none⟩)] W fun e W' => (∃ v, e = .returned v) ∧
      ((∃ ys, ys = enumP ps (goodN ps) ∧ J ys W') ∨ (∃ pre, (∃ q, q < goodN ps ∧ pre = enumP ps (q + 1)) ∧ Jx pre W')) := by
  (refine callsIn_of_wp Try.func48 rfl trivial ?_ rfl; simp only [Try.ntmps48, List.size_toArray, List.length_cons, List.length_nil, Nat.reduceAdd, Nat.reduceSub, Array.replicate_succ, Array.replicate_zero, List.push_toArray, List.append_toArray, List.nil_append, List.cons_append])
  refine wpIn_wide.2 ?_
  go_wp2
  refine (wpIn_wide (n := 7)).1 ?_
  gi_loopw [9] (fun i wr => ∃ k : Nat, k ≤ n ∧ i = .int .i64 k ∧ k ≤ goodN ps ∧ J (enumP ps k) wr ∧ (∀ q, q < B0 → wr.heap[q]? = w0.heap[q]?))
    (fun i _ => n - (intOf i).toNat)
  case atStart => exact ⟨0, Nat.zero_le _, rfl, Nat.zero_le _, h0, hW⟩
  case round =>
    obtain ⟨k, hk, rfl, hgd, hJs, hsm0⟩ := hrel
    by_cases hlt : k < n
    · have hj2 : (k : Int) < (n : Int) := by omega
      have hkw : IntKind.i64.wrap ((k : Int) + 1) = (k : Int) + 1 := IntWalk.i64_in _ (by omega)
      have hst := goodN_step ps k hgd (by rw [hn]; exact hlt)
      have hnext := enumP_succ ps k
      have hl8 : (enumP ps k).length < n := by rw [enumP_length]; exact hlt
      obtain ⟨vs, hv1, hv2, hv3⟩ := hP.same (w' := wr) (fun q hq => hsm0 q (by omega))
      obtain ⟨xs, hxs⟩ : ∃ xs, ps[k]? = some xs := ⟨_, List.getElem?_eq_getElem (by rw [hn]; exact hlt)⟩
      obtain ⟨u, hu⟩ : ∃ u, vs[k]? = some u := ⟨_, List.getElem?_eq_getElem (by omega)⟩
      rw [show ps.getD k [] = xs by rw [List.getD_eq_getElem?_getD, hxs]; rfl] at hst hnext
      have hdec := decode_any u xs wr (hv3 k u xs hu hxs) (hsm xs (List.mem_of_getElem? hxs))
      obtain ⟨b, o, c', e1, hcell⟩ := hv1.cells k u hu
      injection e1 with e1 e2 e3
      clear e2 e3
      subst e1
      obtain ⟨au, lu, cu, hu4⟩ : ∃ au lu cu, u = .slice au lu cu := by obtain ⟨a, b, h, _⟩ := (hv3 k u xs hu hxs).form; exact ⟨_, _, _, h⟩
      obtain ⟨k2, a2, b2, n2, hdv⟩ := decV_note' xs
      subst hu4
      have hy0 := fun W2 h => hY (enumP ps k) (k, xs) W2 h hl8
      simp only [encP] at hy0
      rw [hdv] at hdec
      rw [hdv] at hy0
      have HN := Lib.hid hnext
      have HST := Lib.hid hst
      have hlt2 : ∀ q, q < B0 → q < wr.heap.size := fun q hq => by have h := hsm0 q hq; rw [Array.getElem?_eq_getElem (show q < w0.heap.size by omega)] at h; exact (Array.getElem?_eq_some_iff.1 h).1
      clear hv1 hv2 hv3 hu hxs hnext hst hdv hl8 hY
      gi_wp2
      refine ⟨trivial, (callsIn_wide.2 hdec).mono ?_⟩
      clear hdec
      rintro e W2 ⟨rfl, hC2⟩
      by_cases hE : decE xs = 0
      · rw [hE]
        have hC3 := hC2.alloc (.cells #[.int .i64 k2, .int .i64 a2, .int .i64 b2, .int .i64 n2] 23)
        obtain ⟨fn, tmps, assign, body, hy, hRd⟩ := hy0 _ (hJ _ _ _ hJs hC3)
        have y0 : (W2.alloc (.cells #[.int .i64 k2, .int .i64 a2, .int .i64 b2, .int .i64 n2] 23)).cell? ⟨W2.heap.size, 0, none⟩ = some (.int .i64 k2) := new_cell W2 _ _ rfl
        have y1 : (W2.alloc (.cells #[.int .i64 k2, .int .i64 a2, .int .i64 b2, .int .i64 n2] 23)).cell? ⟨W2.heap.size, 1, none⟩ = some (.int .i64 a2) := new_cell W2 _ _ rfl
        have y2 : (W2.alloc (.cells #[.int .i64 k2, .int .i64 a2, .int .i64 b2, .int .i64 n2] 23)).cell? ⟨W2.heap.size, 2, none⟩ = some (.int .i64 b2) := new_cell W2 _ _ rfl
        have y3 : (W2.alloc (.cells #[.int .i64 k2, .int .i64 a2, .int .i64 b2, .int .i64 n2] 23)).cell? ⟨W2.heap.size, 3, none⟩ = some (.int .i64 n2) := new_cell W2 _ _ rfl
        gi_wp2
        refine hRd.mono ?_
        rintro e W3 (⟨rfl, hJ3, hk3⟩ | ⟨rfl, hJx3⟩)
        · clear y0 y1 y2 y3
          gi_wp2
          go_roundw
          case rel => exact ⟨k + 1, Nat.succ_le_of_lt hlt, by go_num, Nat.succ_le_of_lt (HST.out.1 hE), by rw [HN.out]; exact hJ3, fun q hq => (hk3.same q hq).trans ((hC3.block q (hlt2 q hq) id).trans (hsm0 q hq))⟩
          case measure => exact fit_meas k n hlt
        · gi_wp2
          refine bodyPost_ret (results_none rfl _ _ _) rfl ?_
          exact ⟨⟨_, rfl⟩, .inr ⟨_, ⟨k, HST.out.1 hE, HN.out.symm⟩, hJx3⟩⟩
      · have hC3 := hC2.alloc (.cells #[.int .i64 k2, .int .i64 a2, .int .i64 b2, .int .i64 n2] 23)
        have hE2 : decE xs = 90 := by
          unfold decE at hE ⊢
          split at hE
          · exact absurd rfl hE
          · rename_i h; rw [if_neg h]
        rw [hE2]
        have hJ9 := hJ _ _ _ hJs hC3
        have hkg : enumP ps k = enumP ps (goodN ps) := by rw [Nat.le_antisymm hgd (Nat.not_lt.1 fun h => hE (HST.out.2 h))]
        clear hJ hy0 hE
        gi_wp2
        refine ⟨fun _ h => (by cases h), ?_⟩
        gi_wp2
        refine bodyPost_ret (results_none rfl _ _ _) rfl ?_
        exact ⟨⟨_, rfl⟩, .inl ⟨_, hkg, hJ9⟩⟩
    · have hkg : enumP ps k = enumP ps (goodN ps) := by have := goodN_le ps; rw [show k = goodN ps by omega]
      obtain rfl : k = n := by omega
      gi_wp2
      go_end0
      exact ⟨⟨_, rfl⟩, .inl ⟨_, hkg, hJs⟩⟩
theorem all_seq (b0 B0 : Nat) (ao : Option Addr) (n c : Nat) (ps : List (List UInt8)) (hn : ps.length = n) (hn2 : n ≤ 140737488355328) (hsm : ∀ xs ∈ ps, xs.length ≤ 140737488355328) (w0 w : World) (hB0 : w0.heap.size = B0) (hP : Pay w0 (.slice ao n c) ps) (hB : B0 ≤ w.heap.size) (hW : ∀ q, q < B0 → w.heap[q]? = w0.heap[q]?) (hr : w.cell? ⟨b0, 0, none⟩ = some (.slice ao n c)) :
    SeqT Try.prog 48 #[.pointer (some ⟨b0, 0, none⟩)] encP (fun k => k < B0) (fun _ => False) (fun ys => ys = enumP ps (goodN ps)) (fun pre => ∃ q, q < goodN ps ∧ pre = enumP ps (q + 1)) n w := fun l J Jx W hWb hJ _ hY h0 =>
  all1_in l b0 B0 ao n c ps hn hn2 hsm J Jx hY w0 hB0 hP W (fun q hq => (hWb.block q (by omega)).trans (hW q hq)) hJ ((hWb.cell (p := ⟨b0, 0, none⟩) (cell_lt hr)).trans hr) h0
end Go.Proofs.Ytpiboaoifcajdaa
