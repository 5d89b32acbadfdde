/- Seal and Open. -/
import Derived.Test.YtccpmbonipfmpaaCrcO
import Derived.Test.YtccpmbonipfmpaaOctR
import Derived.Test.YtccpmbonipfmpaaOpen
namespace Go.Proofs.Ytccpmbonipfmpaa
open Go.RowKit

theorem Wtr.zero (w : World) (t : TypeId) : Wtr (w.alloc (.cells #[.slice none 0 0] t)) (w.heap.size + 1) w.heap.size (.slice none 0 0) [] :=
  ⟨new_cell w _ _ rfl, new_frozen w _ _ _, World.ownsRow_nil _ _ _ _, by omega⟩
theorem wrote_fresh {W w w' : World} {v v' : Value} {xs ys : List UInt8} (hC : Chg (fun _ => False) W w) (hW : Wtr w (W.heap.size + 1) W.heap.size v xs) (hR : Wrote w w' (W.heap.size + 1) W.heap.size v v' ys) : Chg (fun _ => False) W w' :=
  hC.trans hR.chg (fun _ _ h => h) (fun i hi h => h.elim (fun e => by omega) (fun e => by have := (hW.owns.lt _ e).1; omega))
theorem owns_base {w : World} {base base' : Nat} {e : TypeId} {size : Nat} {v : Value} {n : Nat} {xs : List Value} (h : w.ownsRow base e size v n xs) (hb : base' ≤ base) : w.ownsRow base' e size v n xs :=
  ⟨h.1, h.2.imp id fun ⟨g, cap, cur, e, hb1, r⟩ => ⟨g, cap, cur, e, Nat.le_trans hb hb1, r⟩⟩

/-- Bytes with their sum behind them. -/
def sealL (l : List UInt8) : List UInt8 := l ++ be 4 (moreN 0 l)
theorem sealL_length (l : List UInt8) : (sealL l).length = l.length + 4 := by unfold sealL; rw [List.length_append, be_length]

theorem num4 (m : Nat) (h : m < 4294967296) : numErr 4 m = 0 ∧ numBytes 4 m = be 4 m := by
  have e : numErr 4 m = 0 := by
    unfold numErr
    rw [if_pos (by decide), if_neg (by rw [show (2 : Nat) ^ (8 * (4 : Int).toNat) = 4294967296 from rfl]; omega)]
  refine ⟨e, ?_⟩
  unfold numBytes
  rw [if_pos e]
  rfl

set_option maxHeartbeats 400000 in
theorem seal_any (u : Value) (xs : List UInt8) (w : World) (hS : Sl w u (xs.map B)) (hl : xs.length + 100 ≤ 140737488355328) : Calls Try.prog 24 #[u] w (GaveB w (sealL xs)) := by
  have hC0 := (Chg.refl (fun _ => False) w).alloc (.cells #[.slice none 0 0] 48)
  have hW0 := Wtr.zero w 48
  have h1 := raw_any u xs _ _ _ _ _ (hS.fr hC0) hW0 (by simp; omega) (by simp)
  obtain ⟨m, hm⟩ : ∃ m, moreN 0 xs = m := ⟨_, rfl⟩
  have hm2 : m < 4294967296 := by rw [← hm]; exact moreN_lt _ (by decide)
  have hwm : IntKind.u64.wrap (m : Int) = m := by rw [wrap_u64_mod]; omega
  obtain ⟨ao, c, hu, _⟩ := hS.form
  rw [List.length_map] at hu
  have HS := Lib.hid hS
  clear hS
  subst hu
  go_enter Try.func24, Try.ntmps24
  go_wp2_with fail
  refine h1.mono ?_
  clear h1
  rintro e w1 ⟨rfl, v1, hR1⟩
  have hC1 := wrote_fresh hC0 hW0 hR1
  have h2 := of_any _ xs w1 (HS.out.fr hC1) (by omega)
  rw [hm] at h2
  go_wp2_with fail
  refine h2.mono ?_
  clear h2
  rintro e w2 ⟨rfl, hN⟩
  have hC2 := hC1.tr hN
  have hW2 := hR1.wtr.chg hN id (fun _ _ => id)
  have h3 := num_any 4 m _ _ _ _ _ (by omega) (by omega) hW2 (by simp; omega) (Nat.succ_le_of_lt (cell_lt hW2.cell))
  rw [Int.toNat_natCast, (num4 m hm2).1, (num4 m hm2).2] at h3
  go_wp2_with fail
  refine h3.mono ?_
  clear h3
  rintro e w3 ⟨rfl, v3, hR3⟩
  have hC3 := wrote_fresh hC2 hW2 hR3
  have h4 := bytes_any _ _ _ _ _ hR3.wtr (by simp [be_length]; omega)
  go_wp2_with fail
  refine h4.mono ?_
  clear h4
  rintro e w4 ⟨v4, rfl, ho, hC4⟩
  go_wp2
  go_ret
  have hs : [] ++ xs ++ be 4 m = sealL xs := by unfold sealL; rw [hm]; rfl
  rw [hs] at ho
  exact ⟨_, rfl, owns_base ho hC3.size, hC3.tr hC4⟩

set_option maxRecDepth 100000 in
set_option maxHeartbeats 400000 in
theorem equal_same (a1 a2 : Option Addr) (c1 c2 n : Nat) (xs ys : List UInt8) (w : World) (m1 : xs.length = n) (m2 : ys.length = n) (HS : Hid (Sl w (.slice a1 n c1) (xs.map B))) (HT : Hid (Sl w (.slice a2 n c2) (ys.map B))) (hl : n ≤ 140737488355328) :
    Calls Try.prog 53 #[.slice a1 n c1, .slice a2 n c2] w (Gave w (.bool (decide (xs = ys)))) := by
  go_enter Try.func53, Try.ntmps53
  go_wp2
  go_loopw [13] (fun i wr => ∃ k : Nat, k ≤ n ∧ i = .int .i64 k ∧ xs.take k = ys.take k ∧ Chg (fun _ => False) w wr)
    (fun i _ => n - (intOf i).toNat)
  case atStart => exact ⟨0, Nat.zero_le _, rfl, rfl, Chg.refl _ _⟩
  case round =>
    obtain ⟨k, hk, rfl, he, hC⟩ := hrel
    by_cases hlt : k < n
    · obtain ⟨b1, o1, d1, e1, hx⟩ := (HS.out.fr hC).at (j := k) (by rw [List.length_map]; omega)
      obtain ⟨b2, o2, d2, e2, hy⟩ := (HT.out.fr hC).at (j := k) (by rw [List.length_map]; omega)
      injection e1 with e1 f1 f2
      injection e2 with e2 f3 f4
      subst e1 e2
      clear f1 f2 f3 f4
      rw [List.getElem_map] at hx hy
      have hnx : ∀ h1 h2, xs[k]'h1 = ys[k]'h2 → xs.take (k + 1) = ys.take (k + 1) := fun h1 h2 h => by rw [List.take_succ_eq_append_getElem h1, List.take_succ_eq_append_getElem h2, he, h]
      have hne : ∀ h1 h2, xs[k]'h1 ≠ ys[k]'h2 → xs ≠ ys := fun h1 h2 h e => h (by subst e; rfl)
      replace hnx := hnx (by omega) (by omega)
      replace hne := hne (by omega) (by omega)
      generalize xs[k] = x at *
      generalize ys[k] = y at *
      unfold B at hx hy
      have hlt' : (k : Int) < (n : Int) := by omega
      have hCd := hC.drew
      by_cases hxy : x = y
      · have hxy' : ((x.toNat : Int) != (y.toNat : Int)) = false := by rw [hxy]; simp
        have HN := Lib.hid (hnx hxy)
        clear hnx hne hxy he HS HT
        go_wp2
        go_quiet (fail)
        go_wp2
        go_roundw
        case rel => exact ⟨k + 1, by omega, by go_num, HN.out, by first | exact hC.drewN _ | exact hCd⟩
        case measure => first | (simp [intOf]; done) | (simp [intOf]; omega)
      · have hxy' : ((x.toNat : Int) != (y.toNat : Int)) = true := by
          simp only [bne_iff_ne, ne_eq]
          intro h
          exact hxy (UInt8.toNat_inj.1 (by omega))
        have hne' := hne hxy
        clear hnx hne hxy he HS HT
        go_wp2
        go_quiet (fail)
        go_wp2
        go_ret
        exact ⟨by rw [decide_eq_false hne']; rfl, by first | exact hC.drewN _ | exact hCd⟩
    · obtain rfl : n = k := by omega
      have hxs : xs = ys := by
        rw [List.take_of_length_le (by omega), List.take_of_length_le (by omega)] at he
        exact he
      go_wp2
      go_ret
      exact ⟨by rw [decide_eq_true hxs]; rfl, hC⟩

set_option maxHeartbeats 400000 in
theorem equal_any (u v : Value) (xs ys : List UInt8) (w : World) (hS : Sl w u (xs.map B)) (hT : Sl w v (ys.map B)) (hl : xs.length ≤ 140737488355328) :
    Calls Try.prog 53 #[u, v] w (Gave w (.bool (decide (xs = ys)))) := by
  obtain ⟨a1, c1, rfl, _⟩ := hS.form
  obtain ⟨a2, c2, rfl, _⟩ := hT.form
  rw [List.length_map] at hS hT
  rw [List.length_map, List.length_map]
  by_cases hlen : xs.length = ys.length
  · rw [← hlen] at hT
    rw [← hlen]
    exact equal_same a1 a2 c1 c2 _ xs ys w rfl hlen.symm (Lib.hid hS) (Lib.hid hT) hl
  · clear hS hT
    have h1 : ((xs.length : Int) != (ys.length : Int)) = true := by simp only [bne_iff_ne, ne_eq]; omega
    have h2 : decide (xs = ys) = false := decide_eq_false (fun e => hlen (by rw [e]))
    rw [h2]
    clear h2 hlen
    go_enter Try.func53, Try.ntmps53
    go_wp2
    go_ret
    exact ⟨rfl, Chg.refl _ _⟩

/-- Is it sealed? -/
def openOk (l : List UInt8) : Bool := decide (4 ≤ l.length) && decide (sealL (l.take (l.length - 4)) = l)
def openL (l : List UInt8) : List UInt8 := if openOk l then l.take (l.length - 4) else []
def openE (l : List UInt8) : Int := if openOk l then 0 else 20
/-- What Open answers. -/
def GaveO (w : World) (ys : List UInt8) (er : Int) (e : Ending) (w' : World) : Prop :=
  ∃ v, e = .returned (.tuple #[v, .int .i64 er]) ∧ w'.ownsRow w.heap.size 5 1 v ys.length (ys.map B) ∧ Chg (fun _ => False) w w'

set_option maxRecDepth 100000 in
set_option maxHeartbeats 400000 in
theorem open_main (ao : Option Addr) (c n k : Nat) (xs : List UInt8) (w : World) (m1 : xs.length = n) (hk : n = k + 4) (hS : Sl w (.slice ao n c) (xs.map B)) (hl : n + 100 ≤ 140737488355328) :
    Calls Try.prog 41 #[.slice ao n c] w (GaveO w (if sealL (xs.take k) = xs then xs.take k else []) (if sealL (xs.take k) = xs then 0 else 20)) := by
  have hd : decide ((k : Int) < 0) = false := decide_eq_false (by omega)
  obtain ⟨a1, d1, hS1, _, _, _, hcut⟩ := hS.slice 25 5 Try.underlying25 sizeOf_u8 0 k (Nat.zero_le _) (by rw [List.length_map]; omega)
  replace hcut := hcut rfl
  rw [Nat.sub_zero] at hS1 hcut
  rw [List.drop_zero, ← List.map_take] at hS1
  have e4 : IntKind.i64.wrap ((n : Int) - 4) = (k : Int) := by rw [show (n : Int) - 4 = (k : Int) by omega]; exact IntWalk.i64_in _ (by omega)
  have hq : (k : Int) ≤ (n : Int) := by omega
  have hlt : (xs.take k).length = k := by rw [List.length_take]; omega
  have hsl := seal_any _ (xs.take k) w hS1 (by omega)
  have hsn : (sealL (xs.take k)).length ≤ 140737488355328 := by rw [sealL_length]; omega
  have HS := Lib.hid hS
  have HS1 := Lib.hid hS1
  clear hS hS1 hk m1
  by_cases hb : sealL (xs.take k) = xs
  · rw [if_pos hb, if_pos hb]
    have hb' : decide (sealL (xs.take k) = xs) = true := decide_eq_true hb
    go_enter Try.func41, Try.ntmps41
    go_wp2_with fail
    refine hsl.mono ?_
    clear hsl
    rintro e w1 ⟨v1, rfl, ho1, hC1⟩
    have heq := equal_any v1 _ _ _ w1 (Sl.of_owns ho1) (HS.out.fr hC1) hsn
    rw [hb'] at heq
    clear ho1
    go_wp2_with fail
    refine heq.mono ?_
    clear heq
    rintro e w2 ⟨rfl, hC2⟩
    have hcl := cloneB_any _ (xs.take k) w2 ((HS1.out.fr hC1).fr hC2) (by omega)
    go_wp2_with fail
    refine hcl.mono ?_
    clear hcl
    rintro e w3 ⟨v3, rfl, ho3, hC3⟩
    go_wp2
    go_ret2
    exact ⟨_, rfl, owns_base ho3 (hC1.tr hC2).size, (hC1.tr hC2).tr hC3⟩
  · rw [if_neg hb, if_neg hb]
    have hb' : decide (sealL (xs.take k) = xs) = false := decide_eq_false hb
    go_enter Try.func41, Try.ntmps41
    go_wp2_with fail
    refine hsl.mono ?_
    clear hsl
    rintro e w1 ⟨v1, rfl, ho1, hC1⟩
    have heq := equal_any v1 _ _ _ w1 (Sl.of_owns ho1) (HS.out.fr hC1) hsn
    rw [hb'] at heq
    clear ho1
    go_wp2_with fail
    refine heq.mono ?_
    clear heq
    rintro e w2 ⟨rfl, hC2⟩
    go_wp2
    go_ret2
    exact ⟨_, rfl, World.ownsRow_nil _ _ _ _, hC1.tr hC2⟩

set_option maxHeartbeats 400000 in
theorem open_any (u : Value) (xs : List UInt8) (w : World) (hS : Sl w u (xs.map B)) (hl : xs.length + 100 ≤ 140737488355328) : Calls Try.prog 41 #[u] w (GaveO w (openL xs) (openE xs)) := by
  obtain ⟨ao, c, rfl, _⟩ := hS.form
  rw [List.length_map] at hS
  rw [List.length_map]
  by_cases h4 : xs.length < 4
  · have h1 : openOk xs = false := by unfold openOk; rw [decide_eq_false (by omega)]; rfl
    have hd : decide ((xs.length : Int) - 4 < 0) = true := decide_eq_true (by omega)
    have e4 : IntKind.i64.wrap ((xs.length : Int) - 4) = (xs.length : Int) - 4 := IntWalk.i64_in _ (by omega)
    rw [show openE xs = 20 by unfold openE; rw [h1]; rfl, show openL xs = [] by unfold openL; rw [h1]; rfl]
    clear hS h1
    go_enter Try.func41, Try.ntmps41
    go_wp2
    go_ret2
    exact ⟨_, rfl, World.ownsRow_nil _ _ _ _, Chg.refl _ _⟩
  · have h := open_main ao c xs.length (xs.length - 4) xs w rfl (by omega) hS hl
    have hok : openOk xs = decide (sealL (xs.take (xs.length - 4)) = xs) := by unfold openOk; rw [decide_eq_true (by omega), Bool.true_and]
    rw [show openE xs = if sealL (xs.take (xs.length - 4)) = xs then 0 else 20 by unfold openE; rw [hok]; simp, show openL xs = if sealL (xs.take (xs.length - 4)) = xs then xs.take (xs.length - 4) else [] by unfold openL; rw [hok]; simp]
    exact h
end Go.Proofs.Ytccpmbonipfmpaa
