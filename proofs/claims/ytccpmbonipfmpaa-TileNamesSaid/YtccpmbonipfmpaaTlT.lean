/- tile.elements. -/
import Derived.Test.YtccpmbonipfmpaaTlS
import Derived.Test.YtccpmbonipfmpaaRangeT
import Derived.Test.YtccpmbonipfmpaaOctQ
import Derived.Test.YtccpmbonipfmpaaTlM
namespace Go.Proofs.Ytccpmbonipfmpaa
open Go.RowKit Go.Shelf
attribute [local go_sem] Oper.semAt_some

theorem elements_any (p : Option Addr) (m : Int) (w : World) : Calls Try.prog 38 #[.pointer p, .int .i64 m] w fun e w' => e = .returned (.func (.func 52) #[] #[.pointer (some ⟨w.heap.size + 1, 0, none⟩), .pointer (some ⟨w.heap.size, 0, none⟩)]) ∧ w' = (w.alloc (.cells #[.pointer p] 64)).alloc (.cells #[.int .i64 m] 3) := by
  go_enter Try.func38, Try.ntmps38
  go_wp2
  go_ret
  exact ⟨rfl, rfl⟩
theorem Rdr.same {w w' : World} {b : Nat} {v : Value} {xs : List UInt8} {pos : Nat} (h : Rdr w b v xs pos) (hs : w.heap.size ≤ w'.heap.size) (hb : w'.heap[b]? = w.heap[b]?) (hv : ∀ k, v.ownBlock = some k → w'.heap[k]? = w.heap[k]?) : Rdr w' b v xs pos :=
  ⟨(World.cell?_of_block hb).trans h.c0, (World.cell?_of_block hb).trans h.c1, (World.cell?_of_block hb).trans h.c2, (World.frozen?_of_block hb).trans h.f1,
    ⟨h.sl.form, fun j u hu => by obtain ⟨b, o, c, rfl, hc⟩ := h.sl.cells j u hu; exact ⟨b, o, c, rfl, (World.cell?_of_block (hv b rfl)).trans hc⟩⟩, h.le, h.ne, h.small, fun k hk => Nat.lt_of_lt_of_le (h.vlt k hk) hs⟩

/-- What is told at place j: the element, or that there are fewer. -/
def tellE (xs : List UInt8) (p j : Nat) : Int × Int := if p + 8 * j + 8 ≤ xs.length then ((j : Int), IntKind.i64.wrap (rVal (xs.drop (p + 8 * j)) 8 : Nat)) else (-1, 0)
def tellsL (xs : List UInt8) (p k : Nat) : List (Int × Int) := (List.range k).map (tellE xs p)
theorem tellsL_succ (xs : List UInt8) (p k : Nat) : tellsL xs p (k + 1) = tellsL xs p k ++ [tellE xs p k] := by simp [tellsL, List.range_succ]
theorem tellsL_length (xs : List UInt8) (p k : Nat) : (tellsL xs p k).length = k := by simp [tellsL]
def encE2 (x : Int × Int) : Array Value := #[.int .i64 x.1, .int .i64 x.2]
/-- Where the reader stands ahead of place j. -/
def posE (xs : List UInt8) (p j : Nat) : Nat := p + 8 * min j ((xs.length - p) / 8)

theorem read_step (xs : List UInt8) (p k : Nat) (hp : p ≤ xs.length) :
    (p + 8 * k + 8 ≤ xs.length → rErr (xs.drop (posE xs p k)) 8 = 0 ∧ rPos (xs.drop (posE xs p k)) 8 (posE xs p k) = posE xs p (k + 1) ∧ tellE xs p k = ((k : Int), IntKind.i64.wrap (rVal (xs.drop (posE xs p k)) 8 : Nat))) ∧
    (¬ p + 8 * k + 8 ≤ xs.length → rErr (xs.drop (posE xs p k)) 8 = 10 ∧ rPos (xs.drop (posE xs p k)) 8 (posE xs p k) = posE xs p (k + 1) ∧ rVal (xs.drop (posE xs p k)) 8 = 0 ∧ tellE xs p k = (-1, 0)) := by
  have hr : ∀ l, rErr l 8 = if 8 ≤ l.length then 0 else 10 := fun l => rfl
  constructor
  · intro h
    have e1 : posE xs p k = p + 8 * k := by unfold posE; omega
    have e0 : rErr (xs.drop (posE xs p k)) 8 = 0 := by rw [hr, if_pos (by rw [List.length_drop, e1]; omega)]
    refine ⟨e0, ?_, ?_⟩
    · unfold rPos
      rw [if_pos e0, e1]
      show p + 8 * k + 8 = _
      unfold posE
      omega
    · unfold tellE
      rw [if_pos h, e1]
  · intro h
    have e0 : rErr (xs.drop (posE xs p k)) 8 = 10 := by rw [hr, if_neg (by rw [List.length_drop]; unfold posE; omega)]
    refine ⟨e0, ?_, ?_, ?_⟩
    · unfold rPos
      rw [e0, if_neg (by decide)]
      unfold posE
      omega
    · unfold rVal
      rw [e0, if_neg (by decide)]
    · unfold tellE
      rw [if_neg h]
theorem posE_zero (xs : List UInt8) (p : Nat) : posE xs p 0 = p := by unfold posE; omega
set_option maxRecDepth 100000 in
set_option maxHeartbeats 1000000 in
theorem elements1_in (l b1 b2 rb p m : Nat) (hm : m ≤ 4096) (v : Value) (xs : List UInt8) (hp : p ≤ xs.length) (hb1 : b1 ≠ rb) (J Jx : List (Int × Int) → World → Prop)
    (hY : ∀ pre x W1, J pre W1 → pre.length < m → YieldAt Fence.wide 6 Try.prog l (encE2 x) W1 fun e W' =>
      (e = .returned (.bool true) ∧ J (pre ++ [x]) W' ∧ Keep (fun k => k = rb ∨ k = b1 ∨ v.ownBlock = some k) W1 W') ∨ (e = .returned (.bool false) ∧ Jx (pre ++ [x]) W'))
    (W : World) (hJ : AbidesT (fun k => k = rb) J) (hcm : W.cell? ⟨b2, 0, none⟩ = some (.int .i64 (m : Int))) (hr : W.cell? ⟨b1, 0, none⟩ = some (.pointer (some ⟨rb, 0, none⟩))) (hR : Rdr W rb v xs p) (h0 : J [] W) :
    CallsIn Fence.wide 7 Try.prog 52 #[.func (.yield l) #[] #[], .pointer (some ⟨b2, 0, none⟩), .pointer (some ⟨b1, 0, none⟩)] W fun e W' => (∃ v, e = .returned v) ∧
      ((∃ ys, ys = tellsL xs p m ∧ J ys W') ∨ (∃ pre, (∃ q, q < m ∧ pre = tellsL xs p (q + 1)) ∧ Jx pre W')) := by
  have hR' : Rdr W rb v xs (posE xs p 0) := by rw [posE_zero]; exact hR
  have HP := Lib.hid hp
  have HM := Lib.hid hm
  clear hR hp hm
  (refine callsIn_of_wp Try.func52 rfl trivial ?_ rfl; simp only [Try.ntmps52, List.size_toArray, List.length_cons, List.length_nil, Nat.reduceAdd, Nat.reduceSub, Array.replicate_succ, Array.replicate_zero, List.push_toArray, List.append_toArray, List.nil_append, List.cons_append])
  refine wpIn_wide.2 ?_
  go_wp2
  refine (wpIn_wide (n := 7)).1 ?_
  gi_loopw [8] (fun i wr => ∃ k : Nat, k ≤ m ∧ i = .int .i64 k ∧ J (tellsL xs p k) wr ∧ CellAt wr b1 0 (.pointer (some ⟨rb, 0, none⟩)) ∧ Rdr wr rb v xs (posE xs p k))
    (fun i _ => m - (intOf i).toNat)
  case atStart => exact ⟨0, Nat.zero_le _, rfl, h0, hr, hR'⟩
  case round =>
    obtain ⟨k, hk, rfl, hJs, hcr, hRk⟩ := hrel
    unfold CellAt at hcr
    by_cases hlt : k < m
    · have hj2 : (k : Int) < (m : Int) := by omega
      have hkw : IntKind.i64.wrap ((k : Int) + 1) = (k : Int) + 1 := IntWalk.i64_in _ (by have := HM.out; omega)
      have hl8 : (tellsL xs p k).length < m := by rw [tellsL_length]; exact hlt
      have hst := read_step xs p k HP.out
      have hnext := tellsL_succ xs p k
      have hc := rint_any rb v xs _ wr hRk
      by_cases hE : p + 8 * k + 8 ≤ xs.length
      · obtain ⟨e1, e2, e3⟩ := hst.1 hE
        rw [e1, e2] at hc
        rw [e3] at hnext
        generalize IntKind.i64.wrap (rVal (xs.drop (posE xs p k)) 8 : Nat) = x at *
        have HT := Lib.hid hnext
        clear e1 e2 e3 hst hE hnext
        gi_wp2
        refine ⟨trivial, (callsIn_wide.2 hc).mono ?_⟩
        clear hc
        rintro e W2 ⟨rfl, hR2, hC2⟩
        have c2 := hC2.cell hcr hb1
        obtain ⟨fn, tmps, assign, body, hy, hRd⟩ := hY _ (k, x) _ (hJ _ _ _ hJs hC2) hl8
        simp only [encE2] at hy
        gi_wp2
        refine hRd.mono ?_
        rintro e W3 (⟨rfl, hJ3, hk3⟩ | ⟨rfl, hJx3⟩)
        · have c3 := (hk3.cell (p := ⟨b1, 0, none⟩) (.inr (.inl rfl))).trans c2
          have hR3 := hR2.same hk3.size (hk3.same _ (.inl rfl)) (fun q hq => hk3.same _ (.inr (.inr hq)))
          gi_wp2
          go_roundw
          case rel => exact ⟨k + 1, Nat.succ_le_of_lt hlt, by go_num, by rw [HT.out]; exact hJ3, c3, hR3⟩
          case measure => exact fit_meas k m hlt
        · gi_wp2
          refine bodyPost_ret (results_none rfl _ _ _) rfl ?_
          exact ⟨⟨_, rfl⟩, .inr ⟨_, ⟨k, hlt, HT.out.symm⟩, hJx3⟩⟩
      · obtain ⟨e1, e2, e3, e4⟩ := hst.2 hE
        rw [e1, e2, e3, show IntKind.i64.wrap ((0 : Nat) : Int) = 0 from rfl] at hc
        rw [e4] at hnext
        have HT := Lib.hid hnext
        clear e1 e2 e3 e4 hst hE hnext
        gi_wp2
        refine ⟨trivial, (callsIn_wide.2 hc).mono ?_⟩
        clear hc
        rintro e W2 ⟨rfl, hR2, hC2⟩
        have c2 := hC2.cell hcr hb1
        obtain ⟨fn, tmps, assign, body, hy, hRd⟩ := hY _ (-1, 0) _ (hJ _ _ _ hJs hC2) hl8
        simp only [encE2] at hy
        gi_wp2
        refine hRd.mono ?_
        rintro e W3 (⟨rfl, hJ3, hk3⟩ | ⟨rfl, hJx3⟩)
        · have c3 := (hk3.cell (p := ⟨b1, 0, none⟩) (.inr (.inl rfl))).trans c2
          have hR3 := hR2.same hk3.size (hk3.same _ (.inl rfl)) (fun q hq => hk3.same _ (.inr (.inr hq)))
          gi_wp2
          go_roundw
          case rel => exact ⟨k + 1, Nat.succ_le_of_lt hlt, by go_num, by rw [HT.out]; exact hJ3, c3, hR3⟩
          case measure => exact fit_meas k m hlt
        · gi_wp2
          refine bodyPost_ret (results_none rfl _ _ _) rfl ?_
          exact ⟨⟨_, rfl⟩, .inr ⟨_, ⟨k, hlt, HT.out.symm⟩, hJx3⟩⟩
    · obtain rfl : k = m := by omega
      gi_wp2
      go_end0
      exact ⟨⟨_, rfl⟩, .inl ⟨_, rfl, hJs⟩⟩
theorem elements_seq (b1 b2 rb p m : Nat) (hm : m ≤ 4096) (v : Value) (xs : List UInt8) (hp : p ≤ xs.length) (hb1 : b1 ≠ rb) (w : World) (hcm : w.cell? ⟨b2, 0, none⟩ = some (.int .i64 (m : Int))) (hr : w.cell? ⟨b1, 0, none⟩ = some (.pointer (some ⟨rb, 0, none⟩))) (hR : Rdr w rb v xs p) :
    SeqT Try.prog 52 #[.pointer (some ⟨b2, 0, none⟩), .pointer (some ⟨b1, 0, none⟩)] encE2 (fun k => k = rb ∨ k = b1 ∨ v.ownBlock = some k) (fun k => k = rb) (fun ys => ys = tellsL xs p m) (fun pre => ∃ q, q < m ∧ pre = tellsL xs p (q + 1)) m w := fun l J Jx W hW hJ _ hY h0 =>
  elements1_in l b1 b2 rb p m hm v xs hp hb1 J Jx hY W hJ ((hW.cell (p := ⟨b2, 0, none⟩) (cell_lt hcm)).trans hcm) ((hW.cell (p := ⟨b1, 0, none⟩) (cell_lt hr)).trans hr) (hR.below hW (cell_lt hR.c0) hR.vlt) h0
end Go.Proofs.Ytccpmbonipfmpaa
