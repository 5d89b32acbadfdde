/- fold: a row's numbers from the last one on. -/
import Derived.Test.YtjmlekdgipinfaaMt29
import Derived.Test.YtjmlekdgipinfaaMt30
import Derived.Test.YtjmlekdgipinfaaMt31
import Derived.Stop.RegionWithIn
import Derived.Laws.EntriesVeiled
namespace Go.Proofs.Ytjmlekdgipinfaa
open Go.RowKit Go.Shelf

theorem ident_any (f : Int) (w : World) : Calls Try.prog 23 #[.int .i64 f] w (GaveP w (idP f).1 (idP f).2) := by
  cases hb : binB f with
  | false =>
    have h1 : f < 1 ∨ 16 < f := by
      have : ¬ (1 ≤ f ∧ f ≤ 16) := fun q => by rw [binB_iff.2 q] at hb; cases hb
      omega
    rw [show idP f = (0, 2) by unfold idP; rw [hb]; rfl]
    have n1 : (f == 1) = false := beq_eq_false_iff_ne.2 (by omega)
    have n2 : (f == 2) = false := beq_eq_false_iff_ne.2 (by omega)
    have n3 : (f == 3) = false := beq_eq_false_iff_ne.2 (by omega)
    have n4 : (f == 4) = false := beq_eq_false_iff_ne.2 (by omega)
    have n5 : (f == 5) = false := beq_eq_false_iff_ne.2 (by omega)
    have n6 : (f == 6) = false := beq_eq_false_iff_ne.2 (by omega)
    have n7 : (f == 7) = false := beq_eq_false_iff_ne.2 (by omega)
    have n8 : (f == 8) = false := beq_eq_false_iff_ne.2 (by omega)
    have n9 : (f == 9) = false := beq_eq_false_iff_ne.2 (by omega)
    have n10 : (f == 10) = false := beq_eq_false_iff_ne.2 (by omega)
    have n11 : (f == 11) = false := beq_eq_false_iff_ne.2 (by omega)
    have n12 : (f == 12) = false := beq_eq_false_iff_ne.2 (by omega)
    have n13 : (f == 13) = false := beq_eq_false_iff_ne.2 (by omega)
    have n14 : (f == 14) = false := beq_eq_false_iff_ne.2 (by omega)
    have n15 : (f == 15) = false := beq_eq_false_iff_ne.2 (by omega)
    have n16 : (f == 16) = false := beq_eq_false_iff_ne.2 (by omega)
    clear hb h1
    go_enter Try.func23, Try.ntmps23
    go_wp2
    go_ret2
    exact ⟨rfl, Chg.refl _ _⟩
  | true =>
    rcases bin_cases hb with rfl | rfl | rfl | rfl | rfl | rfl | rfl | rfl | rfl | rfl | rfl | rfl | rfl | rfl | rfl | rfl
    all_goals
      clear hb
      go_enter Try.func23, Try.ntmps23
      go_wp2
      go_ret2
      exact ⟨rfl, Chg.refl _ _⟩
def bkA (xs : List Int) (t : Nat) : Nat × Int := (xs.length - 1 - t, xs.getD (xs.length - 1 - t) 0)
def bkL (xs : List Int) : List (Nat × Int) := (List.range xs.length).map (bkA xs)
theorem bkL_length (xs : List Int) : (bkL xs).length = xs.length := by simp [bkL]
theorem bkL_succ (xs : List Int) (t : Nat) (h : t < xs.length) : (bkL xs).take (t + 1) = (bkL xs).take t ++ [bkA xs t] := by
  rw [List.take_succ_eq_append_getElem (by rw [bkL_length]; exact h)]
  simp [bkL]
/-- One number more; behind an error nothing turns. -/
def stpB (f : Int) (n : Nat) (q : Int × Int) (x : Nat × Int) : Int × Int := if q.2 = 0 then (if x.1 + 1 = n then (x.2, 0) else twoP f x.2 q.1) else q
def bkR (f : Int) (n : Nat) (pre : List (Nat × Int)) : Int × Int := pre.foldl (stpB f n) (idV f, 0)
theorem bkR_snoc (f : Int) (n : Nat) (pre : List (Nat × Int)) (x : Nat × Int) : bkR f n (pre ++ [x]) = stpB f n (bkR f n pre) x := by simp [bkR]
theorem bkR_stick (f : Int) (n : Nat) (pre q : List (Nat × Int)) (h : (bkR f n pre).2 ≠ 0) : bkR f n (pre ++ q) = bkR f n pre := by
  unfold bkR at *
  rw [List.foldl_append]
  generalize List.foldl (stpB f n) (idV f, 0) pre = s at *
  induction q with
  | nil => rfl
  | cons x r ih =>
    rw [List.foldl_cons, show stpB f n s x = s from if_neg h]
    exact ih
theorem bk_run (f : Int) (xs : List Int) : ∀ t, 1 ≤ t → t ≤ xs.length → (bkR f xs.length ((bkL xs).take t)).2 = (rowP f (xs.drop (xs.length - t))).2 ∧ ((bkR f xs.length ((bkL xs).take t)).2 = 0 → (bkR f xs.length ((bkL xs).take t)).1 = (rowP f (xs.drop (xs.length - t))).1)
  | 0, h, _ => by omega
  | 1, _, h => by
    have e1 : (bkL xs).take 1 = [bkA xs 0] := by
      have := bkL_succ xs 0 (by omega)
      simpa using this
    have e2 : xs.drop (xs.length - 1) = [xs.getD (xs.length - 1) 0] := by
      have hl : xs.length - 1 < xs.length := by omega
      rw [List.drop_eq_getElem_cons hl, List.drop_eq_nil_of_le (by omega)]
      simp [List.getD, List.getElem?_eq_getElem hl]
    rw [e1, e2]
    have e3 : bkR f xs.length [bkA xs 0] = (xs.getD (xs.length - 1) 0, 0) := by
      show stpB f xs.length (idV f, 0) (bkA xs 0) = _
      unfold stpB bkA
      rw [if_pos rfl, if_pos (by simp only []; omega)]
      simp
    rw [e3, rowP_one]
    exact ⟨rfl, fun _ => rfl⟩
  | t + 2, _, h => by
    obtain ⟨i1, i2⟩ := bk_run f xs (t + 1) (by omega) (by omega)
    rw [bkL_succ xs (t + 1) (by omega), bkR_snoc]
    have hl : xs.length - (t + 2) < xs.length := by omega
    have e2 : xs.drop (xs.length - (t + 2)) = xs.getD (xs.length - (t + 2)) 0 :: xs.drop (xs.length - (t + 1)) := by
      rw [List.drop_eq_getElem_cons hl]
      rw [show xs.length - (t + 2) + 1 = xs.length - (t + 1) by omega]
      simp [List.getD, List.getElem?_eq_getElem hl]
    have hne : xs.drop (xs.length - (t + 1)) ≠ [] := fun e => by
      have := congrArg List.length e
      rw [List.length_drop] at this
      simp at this
      omega
    rw [e2, rowP_cons f _ hne]
    generalize bkR f xs.length ((bkL xs).take (t + 1)) = q at *
    generalize rowP f (xs.drop (xs.length - (t + 1))) = q' at *
    unfold stpB stpP bkA
    rw [show xs.length - 1 - (t + 1) = xs.length - (t + 2) by omega]
    simp only []
    by_cases h0 : q.2 = 0
    · have hq' : q'.2 = 0 := by rw [← i1]; exact h0
      rw [if_pos h0, if_pos hq', if_neg (show ¬ xs.length - (t + 2) + 1 = xs.length by omega), i2 h0]
      split
      · rename_i hz; exact ⟨hz, fun _ => rfl⟩
      · rename_i hz; exact ⟨rfl, fun h => absurd h hz⟩
    · have hq' : ¬ q'.2 = 0 := by rw [← i1]; exact h0
      rw [if_neg h0, if_neg hq']
      exact ⟨i1, fun h => absurd h h0⟩
theorem bk_whole (f : Int) (xs : List Int) : (bkR f xs.length (bkL xs)).2 = (rowP f xs).2 ∧ ((bkR f xs.length (bkL xs)).2 = 0 → (bkR f xs.length (bkL xs)).1 = (rowP f xs).1) := by
  by_cases h : 1 ≤ xs.length
  · have := bk_run f xs xs.length h (Nat.le_refl _)
    rw [Nat.sub_self, List.drop_zero, List.take_of_length_le (by rw [bkL_length]; exact Nat.le_refl _)] at this
    exact this
  · have e : xs = [] := List.eq_nil_of_length_eq_zero (by omega)
    subst e
    exact ⟨rfl, fun _ => rfl⟩
def encB (x : Nat × Int) : Array Value := #[.int .i64 (x.1 : Int), .int .i64 x.2]
set_option maxRecDepth 100000 in
set_option maxHeartbeats 1000000 in
theorem back1_in (l b1 n c : Nat) (ao : Option Addr) (xs : List Int) (hn : xs.length = n) (hn2 : n ≤ 1000000) (R : Nat → Prop) (Ok : Nat × Int → Prop) (hOk : ∀ t, t < n → Ok (bkA xs t)) (J Jx : List (Nat × Int) → World → Prop)
    (hY : ∀ pre x W1, Ok x → J pre W1 → pre.length < n → YieldAt Fence.wide 6 Try.prog l (encB x) W1 fun e W' =>
      (e = .returned (.bool true) ∧ J (pre ++ [x]) W' ∧ Keep R W1 W') ∨ (e = .returned (.bool false) ∧ Jx (pre ++ [x]) W'))
    (w00 w0 : World) (hRl : ∀ q, q < w00.heap.size → R q) (hRb : R b1) (h00 : Chg (fun _ => False) w00 w0) (hb : w0.cell? ⟨b1, 0, none⟩ = some (.slice ao n c)) (hs : Ls w00 (.slice ao n c) xs) (W : World) (hW : ∀ q, R q → W.heap[q]? = w0.heap[q]?) (h0 : J [] W) :
    CallsIn Fence.wide 7 Try.prog 100 #[.func (.yield l) #[] #[], .pointer (some ⟨b1, 0, none⟩)] W fun e W' => (∃ v, e = .returned v) ∧
      ((∃ ys, ys = bkL xs ∧ J ys W') ∨ (∃ pre, (∃ q, q < n ∧ pre = (bkL xs).take (q + 1)) ∧ Jx pre W')) := by
  have hcell : ∀ (W : World), (∀ q, R q → W.heap[q]? = w0.heap[q]?) → ∀ (p : Addr) (v : Value), R p.block → w0.cell? p = some v → W.cell? p = some v := fun W h p v hr hc => (World.cell?_of_block (h p.block hr)).trans hc
  have hls : ∀ (W : World), (∀ q, R q → W.heap[q]? = w0.heap[q]?) → Ls W (.slice ao n c) xs := fun W h => ⟨Sl.form hs, fun j u hu => by obtain ⟨b, o, c, e, hc'⟩ := Sl.cells hs j u hu; exact ⟨b, o, c, e, hcell W h _ _ (hRl _ (cell_lt hc')) (h00.cell hc' id)⟩⟩
  have c1 := hcell W hW _ _ hRb hb
  have k1 : IntKind.i64.wrap ((n : Int) - 1) = (n : Int) - 1 := IntWalk.i64_in _ (by omega)
  have HLS := Lib.hid hls
  have HCL := Lib.hid (show ∀ (W : World), (∀ q, R q → W.heap[q]? = w0.heap[q]?) → W.cell? ⟨b1, 0, none⟩ = some (.slice ao n c) from fun W h => hcell W h _ _ hRb hb)
  have HY := Lib.hid hY
  have HOK := Lib.hid hOk
  have HN := Lib.hid hn
  have h1 : ∃ t i, (i : Int) = (n : Int) - 1 - (t : Nat) ∧ t ≤ n ∧ Value.int .i64 ((n : Int) - 1) = .int .i64 i ∧ J ((bkL xs).take t) W ∧ (∀ q, R q → W.heap[q]? = w0.heap[q]?) := ⟨0, (n : Int) - 1, by omega, Nat.zero_le _, rfl, h0, hW⟩
  have H1 := Lib.hid h1
  clear hcell hls hY hOk hn hRl hRb h00 hb hs hW h0 h1
  (refine callsIn_of_wp Try.func100 rfl trivial ?_ rfl; simp only [Try.ntmps100, List.size_toArray, List.length_cons, List.length_nil, Nat.reduceAdd, Nat.reduceSub, Array.replicate_succ, Array.replicate_zero, List.push_toArray, List.append_toArray, List.nil_append, List.cons_append])
  refine wpIn_wide.2 ?_
  go_wp2
  refine (wpIn_wide (n := 7)).1 ?_
  clear k1 c1
  gi_loopw [3] (fun v wr => ∃ t i, (i : Int) = (n : Int) - 1 - (t : Nat) ∧ t ≤ n ∧ v = .int .i64 i ∧ J ((bkL xs).take t) wr ∧ (∀ q, R q → wr.heap[q]? = w0.heap[q]?)) (fun v _ => (intOf v + 1).toNat)
  case atStart => exact H1.out
  case round =>
    obtain ⟨t, i, hi, ht, rfl, hJs, hsm⟩ := hrel
    clear H1
    by_cases hlt : t < n
    · obtain ⟨m, rfl⟩ := Int.eq_ofNat_of_zero_le (show 0 ≤ i by omega)
      have hm : n - 1 - t = m := by omega
      have hml : m < xs.length := by have := HN.out; omega
      have hA : bkA xs t = (m, xs[m]) := by
        unfold bkA
        rw [HN.out, hm]
        simp [List.getD, List.getElem?_eq_getElem hml]
      have hmn : m < n := by omega
      have i1 : (0 : Int) ≤ (m : Int) := by omega
      have i2 : (m : Int) < (n : Int) := by omega
      have k1 : IntKind.i64.wrap ((m : Int) - 1) = (m : Int) - 1 := IntWalk.i64_in _ (by omega)
      have c1 := HCL.out _ hsm
      obtain ⟨bb, oo, cc, e1, cm⟩ := (HLS.out _ hsm).at hml
      injection e1 with e1 e2 e3
      clear e2 e3
      subst e1
      have hok := HOK.out t hlt
      have hsn := bkL_succ xs t (by rw [HN.out]; exact hlt)
      rw [hA] at hok hsn
      have hl8 : ((bkL xs).take t).length < n := by rw [List.length_take, bkL_length, HN.out]; omega
      obtain ⟨fn, tmps, assign, body, hy, hRd⟩ := HY.out ((bkL xs).take t) (m, xs[m]) wr hok hJs hl8
      simp only [encB] at hy
      have HSN := Lib.hid hsn
      have HSM := Lib.hid hsm
      have HJ := Lib.hid (And.intro hi (And.intro hlt hm))
      generalize xs[m] = x at *
      clear hi hm hml hA hok hsn hl8 hlt ht hJs hsm hmn
      gi_wp2
      refine hRd.mono ?_
      rintro e W3 (⟨rfl, hJ3, hk3⟩ | ⟨rfl, hJx3⟩)
      · gi_wp2
        go_roundw
        case rel => exact ⟨t + 1, (m : Int) - 1, by have := HJ.out; omega, by have := HJ.out; omega, rfl, by rw [HSN.out]; exact hJ3, fun q hq => (hk3.same q hq).trans (HSM.out q hq)⟩
        case measure =>
          simp only [intOf]
          omega
      · gi_wp2
        refine bodyPost_ret (results_none rfl _ _ _) rfl ?_
        exact ⟨⟨_, rfl⟩, .inr ⟨_, ⟨t, HJ.out.2.1, HSN.out.symm⟩, hJx3⟩⟩
    · obtain rfl : t = n := by omega
      obtain rfl : i = -1 := by omega
      have hJ2 : J (bkL xs) wr := by rw [List.take_of_length_le (by rw [bkL_length, HN.out]; exact Nat.le_refl _)] at hJs; exact hJs
      have HJ2 := Lib.hid hJ2
      clear hi ht hJs hsm hlt hJ2
      gi_wp2
      go_end0
      exact ⟨⟨_, rfl⟩, .inl ⟨_, rfl, HJ2.out⟩⟩
end Go.Proofs.Ytjmlekdgipinfaa
