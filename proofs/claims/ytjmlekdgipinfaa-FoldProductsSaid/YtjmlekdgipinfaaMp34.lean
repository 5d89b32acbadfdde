/- fold: the plain law of a vector's scan. -/
import Derived.Test.YtjmlekdgipinfaaMp33
import Derived.Lib.AppendZerosOnto
import Derived.Deep.Cut
namespace Go.Proofs.Ytjmlekdgipinfaa
open Go.RowKit Go.Shelf

/-- A vector. -/
def vcA (l : List Int) : Ar := ⟨1, [(l.length : Int)], l⟩
theorem vshB {n : Nat} (h : n ≤ 4096) : shB [(n : Int)] = true := by
  rw [shB_iff]
  refine ⟨by simp, fun x hx => ?_, ?_⟩
  · rw [List.mem_singleton] at hx
    omega
  · simp [prodL]; omega
theorem vchk {l : List Int} (h : l.length ≤ 4096) : chkB (vcA l) = true := by
  rw [chkB_iff]
  exact ⟨vshB h, by simp [vcA, prodL], by simp [vcA, kndB]⟩
theorem vlon {l : List Int} (h : l.length ≤ 4096) : lonN (vcA l) = l.length := by
  unfold lonN longN vcA
  rw [if_pos (vshB h)]
  simp
theorem vfine {f : Int} {l : List Int} (hb : binB f = true) (h : l.length ≤ 4096) : fineE f (vcA l) = 0 := by
  unfold fineE
  rw [if_pos hb, if_pos (vchk h)]
  rfl
/-- The beginning of a row, folded. -/
def begP (f : Int) (l : List Int) (i : Nat) : Int × Int := rowP f (l.take (i + 1))
theorem vpart {f : Int} {l : List Int} (hb : binB f = true) {i : Nat} (hi : i < l.length) : partP f l l.length i = begP f l i := by
  unfold partP rwP begP rowL
  rw [if_pos hb, Nat.div_eq_of_lt hi, Nat.mod_eq_of_lt hi]
  simp
theorem vtab {f : Int} {l : List Int} (hb : binB f = true) : tabP l.length (partP f l l.length) = tabP l.length (begP f l) := by
  unfold tabP
  exact List.map_congr_left fun i hi => vpart hb (List.mem_range.1 hi)
def scE (f : Int) (l : List Int) : Int := fstE (tabP l.length (begP f l))
theorem vscnE {f : Int} {l : List Int} (hb : binB f = true) (h : l.length ≤ 4096) : scnE f (vcA l) = scE f l := by
  unfold scnE mdE scE
  rw [if_pos (vfine hb h), vlon h]
  show fstE (tabP l.length (partP f l l.length)) = _
  rw [vtab hb]
theorem vscnA {f : Int} {l : List Int} (hb : binB f = true) (h : l.length ≤ 4096) (h0 : scE f l = 0) : scnA f (vcA l) = ⟨1, [(l.length : Int)], tabV l.length (begP f l)⟩ := by
  unfold scnA
  rw [vscnE hb h, if_pos h0, vlon h]
  show Ar.mk 1 [(l.length : Int)] (tabV l.length (partP f l l.length)) = _
  unfold tabV
  rw [vtab hb]
theorem tabV_at {n : Nat} {el : Nat → Int × Int} {i : Nat} (h : i < (tabV n el).length) : (tabV n el)[i] = (el i).1 := by simp [tabV, tabP]
/-- The greatest one. -/
theorem two7 (x y : Int) : twoP 7 x y = (max x y, 0) := by rfl
theorem two6 (x y : Int) : twoP 6 x y = (min x y, 0) := by rfl
theorem row7 : ∀ (l : List Int), l ≠ [] → (rowP 7 l).2 = 0 ∧ (rowP 7 l).1 ∈ l ∧ ∀ x ∈ l, x ≤ (rowP 7 l).1
  | [], h => absurd rfl h
  | [x], _ => ⟨rfl, by simp [rowP], fun y hy => by rw [List.mem_singleton.1 hy]; exact Int.le_refl _⟩
  | x :: y :: r, _ => by
    obtain ⟨h1, h2, h3⟩ := row7 (y :: r) (by simp)
    rw [rowP_cons 7 x (by simp)]
    unfold stpP
    rw [if_pos h1, two7]
    refine ⟨rfl, ?_, fun z hz => ?_⟩
    · show max x _ ∈ _
      rcases Int.le_total x (rowP 7 (y :: r)).1 with h | h
      · rw [Int.max_eq_right h]; exact List.mem_cons_of_mem _ h2
      · rw [Int.max_eq_left h]; simp
    · show z ≤ max x _
      rcases List.mem_cons.1 hz with rfl | hz
      · exact Int.le_max_left _ _
      · exact Int.le_trans (h3 z hz) (Int.le_max_right _ _)
theorem row6 : ∀ (l : List Int), l ≠ [] → (rowP 6 l).2 = 0 ∧ (rowP 6 l).1 ∈ l ∧ ∀ x ∈ l, (rowP 6 l).1 ≤ x
  | [], h => absurd rfl h
  | [x], _ => ⟨rfl, by simp [rowP], fun y hy => by rw [List.mem_singleton.1 hy]; exact Int.le_refl _⟩
  | x :: y :: r, _ => by
    obtain ⟨h1, h2, h3⟩ := row6 (y :: r) (by simp)
    rw [rowP_cons 6 x (by simp)]
    unfold stpP
    rw [if_pos h1, two6]
    refine ⟨rfl, ?_, fun z hz => ?_⟩
    · show min x _ ∈ _
      rcases Int.le_total x (rowP 6 (y :: r)).1 with h | h
      · rw [Int.min_eq_left h]; simp
      · rw [Int.min_eq_right h]; exact List.mem_cons_of_mem _ h2
    · show min x _ ≤ z
      rcases List.mem_cons.1 hz with rfl | hz
      · exact Int.min_le_left _ _
      · exact Int.le_trans (Int.min_le_right _ _) (h3 z hz)
theorem take_ne {l : List Int} {i : Nat} (h : i < l.length) : l.take (i + 1) ≠ [] := by
  intro e
  have := congrArg List.length e
  rw [List.length_take, List.length_nil] at this
  omega
theorem sc7 (l : List Int) : scE 7 l = 0 := fstE_of fun _ hi => (row7 _ (take_ne hi)).1
theorem beg7_ge {l : List Int} {i : Nat} (h : i < l.length) : l[i] ≤ (begP 7 l i).1 := by
  refine (row7 _ (take_ne h)).2.2 _ ?_
  rw [List.mem_take_iff_getElem]
  exact ⟨i, by omega, rfl⟩
theorem beg7_up {l : List Int} {i : Nat} (h : i + 1 < l.length) : (begP 7 l i).1 ≤ (begP 7 l (i + 1)).1 := by
  refine (row7 _ (take_ne h)).2.2 _ ?_
  have h2 := (row7 _ (take_ne (show i < l.length by omega))).2.1
  show (rowP 7 (l.take (i + 1))).1 ∈ l.take (i + 1 + 1)
  rw [List.mem_take_iff_getElem] at h2 ⊢
  obtain ⟨j, hj, e⟩ := h2
  exact ⟨j, by omega, e⟩
theorem beg_last {f : Int} {l : List Int} (h : 0 < l.length) : begP f l (l.length - 1) = rowP f l := by
  unfold begP
  rw [List.take_of_length_le (by omega)]
/-- Was it there, among so many? -/
def hitB (l : List Int) (m : Int) (i : Nat) : Bool := (l.take i).any (· == m)
theorem hit_zero (l : List Int) (m : Int) : hitB l m 0 = false := rfl
theorem hit_succ {l : List Int} {m : Int} {i : Nat} (h : i < l.length) : hitB l m (i + 1) = (hitB l m i || (l[i] == m)) := by
  unfold hitB
  rw [List.take_succ_eq_append_getElem h, List.any_append]
  simp
theorem hit_all {l : List Int} {m : Int} (h : m ∈ l) : hitB l m l.length = true := by
  unfold hitB
  rw [List.take_length, List.any_eq_true]
  exact ⟨m, h, by simp⟩
end Go.Proofs.Ytjmlekdgipinfaa
/- fold: the plain law of parts. -/
namespace Go.Proofs.Ytjmlekdgipinfaa
open Go.RowKit Go.Shelf

theorem fit_zero {n : Int} (h : fitE n ≠ 0) : fitN n = 0 := by
  unfold fitE at h
  unfold fitN
  split at h
  · exact absurd rfl h
  · rename_i g; rw [if_neg g]
theorem two_zero {f x y : Int} (h : (twoP f x y).2 ≠ 0) : (twoP f x y).1 = 0 := by
  cases hb : binB f with
  | false => rw [twoP_no hb]
  | true =>
    rcases bin_cases hb with rfl | rfl | rfl | rfl | rfl | rfl | rfl | rfl | rfl | rfl | rfl | rfl | rfl | rfl | rfl | rfl
    · exact fit_zero (n := x + y) h
    · exact fit_zero (n := x - y) h
    · exact fit_zero (n := x * y) h
    · change divE x y ≠ 0 at h
      show divN x y = 0
      unfold divE at h
      unfold divN
      split
      · rfl
      · rename_i g; rw [if_neg g] at h; exact fit_zero h
    · exact absurd rfl h
    · exact absurd rfl h
    · exact absurd rfl h
    · change powE x y ≠ 0 at h
      show powN x y = 0
      unfold powE at h
      unfold powN
      split
      · rename_i g; rw [if_pos g] at h; exact fit_zero h
      · rename_i g
        rw [if_neg g] at h
        split at h
        · exact absurd rfl h
        · rename_i g2
          rw [if_neg (fun e => g2 (.inl e)), if_neg (fun e => g2 (.inr e))]
    · exact absurd rfl h
    · exact absurd rfl h
    · exact absurd rfl h
    · exact absurd rfl h
    · exact absurd rfl h
    · exact absurd rfl h
    · change logE x y ≠ 0 at h
      show andN x y = 0
      unfold logE at h
      unfold andN
      split at h
      · exact absurd rfl h
      · rename_i g; rw [if_neg g]
    · change logE x y ≠ 0 at h
      show orN x y = 0
      unfold logE at h
      unfold orN
      split at h
      · exact absurd rfl h
      · rename_i g; rw [if_neg g]
theorem row_step {f x : Int} {r : List Int} (hr : r ≠ []) (h : (rowP f r).2 = 0) : rowP f (x :: r) = twoP f x (rowP f r).1 := by
  rw [rowP_cons f x hr]
  unfold stpP
  rw [if_pos h]
  split
  · rename_i g; rw [← g]
  · rename_i g; rw [← two_zero g]
theorem row_bad {f x : Int} {r : List Int} (hr : r ≠ []) (h : (rowP f r).2 ≠ 0) : (rowP f (x :: r)).2 = (rowP f r).2 := by
  rw [rowP_cons f x hr, stpP_err h]
theorem beg_take {f : Int} {l : List Int} {k i : Nat} (h : i < k) : begP f (l.take k) i = begP f l i := by
  unfold begP
  rw [List.take_take, Nat.min_eq_left (by omega)]
theorem tab_take {f : Int} {l : List Int} {k : Nat} : tabP k (begP f (l.take k)) = tabP k (begP f l) := by
  unfold tabP
  exact List.map_congr_left fun i hi => beg_take (List.mem_range.1 hi)
theorem sc_take {f : Int} {l : List Int} {k : Nat} (h : k ≤ l.length) : scE f (l.take k) = fstE (tabP k (begP f l)) := by
  unfold scE
  rw [List.length_take, Nat.min_eq_left h, tab_take]
theorem sc_ok {f : Int} {l : List Int} {k : Nat} (h : k ≤ l.length) (h0 : scE f l = 0) : scE f (l.take k) = 0 := by
  rw [sc_take h]
  exact fstE_of fun i hi => fstE_zero h0 i (by omega)
theorem sc_bad {f : Int} {l : List Int} {k : Nat} (h : k ≤ l.length) : scE f (l.take k) = 0 ∨ scE f (l.take k) = scE f l := by
  rw [sc_take h]
  by_cases g : fstE (tabP k (begP f l)) = 0
  · exact .inl g
  · exact .inr (fstE_all h g).symm
theorem tabV_take {n k : Nat} {el : Nat → Int × Int} (h : k ≤ n) : tabV k el = (tabV n el).take k := by
  unfold tabV tabP
  rw [← List.map_take, ← List.map_take, List.take_range, Nat.min_eq_left h]
theorem tabV_beg {f : Int} {l : List Int} {k : Nat} (h : k ≤ l.length) : tabV (l.take k).length (begP f (l.take k)) = (tabV l.length (begP f l)).take k := by
  rw [List.length_take, Nat.min_eq_left h, ← tabV_take h]
  unfold tabV
  rw [tab_take]
theorem sc_last {f : Int} {l : List Int} (h : 0 < l.length) (h0 : scE f l = 0) : (rowP f l).2 = 0 := by
  rw [← beg_last h]
  exact fstE_zero h0 _ (by omega)
theorem cut_from {w : World} {v : Value} {xs : List Int} (h : Ls w v xs) (h1 : 1 ≤ xs.length) : ∃ ao c, Ls w (.slice ao (xs.length - 1) c) (xs.drop 1) ∧ (∀ W, (Instr.slice 23 v (some (.int .i64 1)) none none).run Try.prog W = .ok (.slice ao (xs.length - 1) c) W) := by
  obtain ⟨ao, c, hS, _, _, h4, _⟩ := Sl.slice (P := Try.prog) 23 2 Try.underlying23 fsizeOf_long h 1 xs.length h1 (by rw [List.length_map]; exact Nat.le_refl _)
  refine ⟨ao, c, ?_, h4 (by rw [List.length_map])⟩
  unfold Ls
  rw [List.take_of_length_le (by rw [List.length_map]; exact Nat.le_refl _)] at hS
  rw [List.map_drop]
  exact hS
theorem cut_upto {w : World} {v : Value} {xs : List Int} (h : Ls w v xs) (k : Nat) (h1 : k ≤ xs.length) : ∃ ao c, Ls w (.slice ao k c) (xs.take k) ∧ (∀ W, (Instr.slice 23 v none (some (.int .i64 (k : Int))) none).run Try.prog W = .ok (.slice ao k c) W) := by
  obtain ⟨ao, c, h2, _, h3⟩ := h.cut 0 k k (Nat.zero_le _) h1 (by omega)
  rw [List.drop_zero] at h2
  exact ⟨ao, c, h2, h3 rfl⟩
end Go.Proofs.Ytjmlekdgipinfaa
/- fold: two shapes, one behind the other. -/
namespace Go.Proofs.Ytjmlekdgipinfaa
open Go.RowKit Go.Shelf

def GaveOw (w : World) (xs : List Int) (e : Ending) (w' : World) : Prop := ∃ v, e = .returned v ∧ Own w' w.heap.size 3 v xs ∧ Chg (fun _ => False) w w'
set_option maxRecDepth 100000 in
set_option maxHeartbeats 1000000 in
theorem grow_nil (n : Nat) (hn : n ≤ 1000000) (w : World) : Calls Try.prog 115 #[.slice none 0 0, .int .i64 n] w (GaveOw w []) := by
  have hw : IntKind.i64.wrap (n : Int) = (n : Int) := IntWalk.i64_in _ (by omega)
  have hneg : decide ((n : Int) < 0) = false := decide_eq_false (by omega)
  by_cases h0 : n = 0
  · subst h0
    go_enter Try.func115, Try.ntmps115
    go_wp2
    go_ret
    exact ⟨_, rfl, Own.nil _ _ _, Chg.refl _ _⟩
  · obtain ⟨i0, hi, hz0, hz1, hz2⟩ := info_parts info_int
    have hG := grownCap_ge w n 0 3
    have hGm := grownCap_le_maxLen w n 0 3 (by unfold maxLen; omega)
    have hrz : ∀ ty, (Builtin.append_ #[22, 3] ty #[.slice none 0 0, .int .i64 (n : Int)]).run Try.prog w =
        .ok (.slice (some ⟨w.heap.size, 0, none⟩) n (grownCap w n 0 3)) (w.drew.alloc (.cells ((#[] : Array Value) ++ Builtin.zeroCells (Value.int .i64 0).cells n ++ Builtin.zeroCells (Value.int .i64 0).cells (grownCap w n 0 3 - n)) 3)) := fun ty => by
      have h := Lib.run_append_grow_zeros (P := Try.prog) w 22 3 ty 3 i0 (.int .i64 0) .i64 .i64 Try.underlying22 Try.underlying3 hi hz0 none 0 0 [] (run_firstCells_none w.drew i0.size 0 0 0) n (by omega) (by rw [hz1]; decide) (by omega) (by omega) (by rw [hz2]; omega)
        (growslice_fits (by omega) (by rw [hz2]; omega))
      rw [Nat.zero_add] at h
      exact h
    obtain ⟨G, hGG⟩ : ∃ G, G = grownCap w n 0 3 := ⟨_, rfl⟩
    rw [← hGG] at hrz hG hGm
    have hpos : decide ((0 : Int) < (n : Int)) = true := decide_eq_true (by omega)
    have hpos2 : 0 < n := by omega
    have HG := Lib.hid (And.intro hG hGm)
    clear h0 hi hz0 hz1 hz2 hG hGm hGG
    go_enter Try.func115, Try.ntmps115
    go_wp2_with (at_builtin; refine Lib.wpList_append_run _ rfl _ _ _ _ rfl _ _ rfl rfl _ _ (hrz _) ?_)
    all_goals
      go_ret
      refine ⟨_, rfl, ⟨rfl, .inr ⟨w.heap.size, G, _, rfl, Nat.le_refl _, heap_alloc_new w.drew _, Nat.zero_le _, HG.out.2, ?_, ?_⟩⟩, (Chg.refl _ w).drew.alloc _⟩
      · have := HG.out.1
        rw [Array.size_append, size_zeroCells, size_zeroCells]
        show n * 1 + (G - n) * 1 = G * 1
        omega
      · simp
set_option maxRecDepth 100000 in
set_option maxHeartbeats 2000000 in
theorem concat_any (va vb : Value) (xs ys : List Int) (b : Nat) (w : World) (hX : Ls w va xs) (hY : Ls w vb ys) (hn : xs.length + ys.length ≤ 1000000) (y0 : w.cell? ⟨b, 0, none⟩ = some va) (y1 : w.cell? ⟨b, 1, none⟩ = some vb) : Calls Try.prog 84 #[.slice (some ⟨b, 0, none⟩) 2 2] w (GaveOw w (xs ++ ys)) := by
  obtain ⟨a1, c1, rfl, _⟩ := hX.form
  obtain ⟨a2, c2, rfl, _⟩ := hY.form
  obtain ⟨i0, hi, hz0, hz1, hz2⟩ := info_parts info_int
  have HN := Lib.hid hn
  have HX := Lib.hid hX
  have HY := Lib.hid hY
  obtain ⟨N, hN⟩ : ∃ N, xs.length + ys.length = N := ⟨_, rfl⟩
  have hg := grow_nil N (by omega) w
  have HNN := Lib.hid hN
  clear hX hY hn hN
  go_enter Try.func84, Try.ntmps84
  go_wp2_with fail
  go_loopw [3, 11] (fun v3 v11 wr => wr = w ∧ ((v11 = .int .i64 0 ∧ v3 = .int .i64 0) ∨ (v11 = .int .i64 1 ∧ v3 = .int .i64 xs.length) ∨ (v11 = .int .i64 2 ∧ v3 = .int .i64 N))) (fun _ v11 _ => 2 - (intOf v11).toNat)
  case atStart => exact ⟨rfl, .inl ⟨rfl, rfl⟩⟩
  case round =>
    obtain ⟨rfl, h⟩ := hrel
    rcases h with ⟨rfl, rfl⟩ | ⟨rfl, rfl⟩ | ⟨rfl, rfl⟩
    · have hw1 : IntKind.i64.wrap (xs.length : Int) = (xs.length : Int) := IntWalk.i64_in _ (by have := HN.out; omega)
      have hd : decide ((xs.length : Int) < 0) = false := decide_eq_false (by omega)
      go_wp2
      go_roundw
      case rel => exact ⟨by first | rfl | trivial, .inr (.inl ⟨rfl, rfl⟩)⟩
      case measure => decide
    · have hw1 : IntKind.i64.wrap ((xs.length : Int) + (ys.length : Int)) = (N : Int) := by rw [IntWalk.i64_in _ (by have := HN.out; omega)]; have := HNN.out; omega
      have hd : decide ((N : Int) < 0) = false := decide_eq_false (by omega)
      go_wp2
      go_roundw
      case rel => exact ⟨by first | rfl | trivial, .inr (.inr ⟨rfl, rfl⟩)⟩
      case measure => decide
    · go_wp2_with fail
      refine hg.mono ?_
      clear hg
      rintro e9 w1 ⟨v, rfl, hO, hC⟩
      obtain ⟨wo, rfl⟩ : ∃ wo : World, wo = wr := ⟨_, rfl⟩
      go_wp2_with fail
      go_loopw [6, 27] (fun v6 v27 wz => Chg (fun _ => False) wo wz ∧ ((v27 = .int .i64 0 ∧ Own wz wo.heap.size 3 v6 []) ∨ (v27 = .int .i64 1 ∧ Own wz wo.heap.size 3 v6 xs) ∨ (v27 = .int .i64 2 ∧ Own wz wo.heap.size 3 v6 (xs ++ ys)))) (fun _ v27 _ => 2 - (intOf v27).toNat)
      case atStart => exact ⟨hC, .inl ⟨rfl, hO⟩⟩
      case round =>
        clear hO hC
        obtain ⟨hCr, h⟩ := hrel
        replace y0 := hCr.cell y0 id
        replace y1 := hCr.cell y1 id
        rcases h with ⟨rfl, hO⟩ | ⟨rfl, hO⟩ | ⟨rfl, hO⟩
        · obtain ⟨al, Ll, cl, rfl, hL⟩ := own_nm hO
          subst hL
          have HO := Lib.hid hO
          have HCr := Lib.hid hCr
          clear hO hCr
          go_wp2_with (at_builtin; refine wpList_append_own_any rfl (.tmp 31) (.tmp 32) 22 rfl wo.heap.size 3 i0 (.int .i64 0) 1 8 Try.underlying22 hi hz0 hz1 hz2 rfl (by decide) (.slice al (([] : List Int)).length cl) (([] : List Int)).length ((([] : List Int)).map I) rfl HO.out a1 (xs).length c1 ((xs).map I) rfl (by rw [List.length_map, Nat.mul_one]) ((HX.out.fr HCr.out).src) (by intro u hu; obtain ⟨x, _, rfl⟩ := List.mem_map.1 hu; rfl) (by have := HN.out; unfold maxLen; simp; omega) (by have := HN.out; simp; omega) (by have := HCr.out.size; omega) ?_; intro v2 w2 hown2 hg2 _ hO2; have hC2 : Chg (fun _ => False) wo w2 := HCr.out.grown hg2 (fun k e => .inr (HO.out.lt k e).1); have O2 := Lib.hid (show Own w2 wo.heap.size 3 v2 (([] : List Int) ++ xs) from by unfold Own; rw [List.length_append, List.map_append]; exact hown2); obtain ⟨al2, L2, cl2, rfl, hL2⟩ := own_nm O2.out)
          go_roundw
          case rel => exact ⟨hC2, .inr (.inl ⟨rfl, O2.out⟩)⟩
          case measure => decide
        · obtain ⟨al, Ll, cl, rfl, hL⟩ := own_nm hO
          subst hL
          have HO := Lib.hid hO
          have HCr := Lib.hid hCr
          clear hO hCr
          go_wp2_with (at_builtin; refine wpList_append_own_any rfl (.tmp 31) (.tmp 32) 22 rfl wo.heap.size 3 i0 (.int .i64 0) 1 8 Try.underlying22 hi hz0 hz1 hz2 rfl (by decide) (.slice al (xs).length cl) (xs).length ((xs).map I) rfl HO.out a2 (ys).length c2 ((ys).map I) rfl (by rw [List.length_map, Nat.mul_one]) ((HY.out.fr HCr.out).src) (by intro u hu; obtain ⟨x, _, rfl⟩ := List.mem_map.1 hu; rfl) (by have := HN.out; unfold maxLen; omega) (by have := HN.out; omega) (by have := HCr.out.size; omega) ?_; intro v2 w2 hown2 hg2 _ hO2; have hC2 : Chg (fun _ => False) wo w2 := HCr.out.grown hg2 (fun k e => .inr (HO.out.lt k e).1); have O2 := Lib.hid (show Own w2 wo.heap.size 3 v2 (xs ++ ys) from by unfold Own; rw [List.length_append, List.map_append]; exact hown2); obtain ⟨al2, L2, cl2, rfl, hL2⟩ := own_nm O2.out)
          go_roundw
          case rel => exact ⟨hC2, .inr (.inr ⟨rfl, O2.out⟩)⟩
          case measure => decide
        · go_wp2
          go_ret
          exact ⟨_, rfl, hO, hCr⟩
def GaveLm (w : World) (xs : List Int) (e : Ending) (w' : World) : Prop := Chg (fun _ => False) w w' ∧ ∃ v n, e = .returned (.tuple #[v, .int .i64 n]) ∧ ((shB xs = true ∧ n = 0 ∧ Own w' w.heap.size 3 v xs) ∨ (shB xs = false ∧ n = 9 ∧ v = .slice none 0 0))
set_option maxRecDepth 100000 in
set_option maxHeartbeats 1000000 in
theorem limited_any (va vb : Value) (xs ys : List Int) (w : World) (hX : Ls w va xs) (hY : Ls w vb ys) (hn : xs.length + ys.length ≤ 1000000) : Calls Try.prog 49 #[va, vb] w (GaveLm w (xs ++ ys)) := by
  have hC0 := (Chg.refl (fun _ => False) w).alloc (.cells #[va, vb] 22)
  have hg := concat_any va vb xs ys w.heap.size _ (hX.fr hC0) (hY.fr hC0) hn (new_cell w #[va, vb] 22 (i := 0) rfl) (new_cell w #[va, vb] 22 (i := 1) rfl)
  obtain ⟨a1, c1, rfl, _⟩ := hX.form
  obtain ⟨a2, c2, rfl, _⟩ := hY.form
  clear hX hY hn
  obtain ⟨zs, hz⟩ : ∃ zs, xs ++ ys = zs := ⟨_, rfl⟩
  rw [hz] at hg ⊢
  clear hz
  have HC0 := Lib.hid hC0
  clear hC0
  go_enter Try.func49, Try.ntmps49
  go_wp2_with fail
  refine hg.mono ?_
  clear hg
  rintro e9 w1 ⟨v, rfl, hO, hC⟩
  have hcnt := count_any v zs w1 hO.ls
  obtain ⟨ao, c, rfl⟩ := own_name hO
  have HO := Lib.hid (hO.mono (Nat.le_of_lt (by rw [World.size_alloc]; exact Nat.lt_succ_self _)) : Own w1 w.heap.size 3 _ zs)
  have HC := Lib.hid (HC0.out.tr hC)
  unfold GaveC at hcnt
  clear hO hC HC0
  cases hs : shB zs with
  | true =>
    have HS := Lib.hid hs
    rw [cntE_ok hs] at hcnt
    clear hs
    go_wp2_with fail
    refine hcnt.mono ?_
    clear hcnt
    rintro e9 w2 ⟨rfl, rfl⟩
    go_wp2
    go_ret2
    exact ⟨HC.out, _, _, rfl, .inl ⟨HS.out, rfl, HO.out⟩⟩
  | false =>
    have HS := Lib.hid hs
    rw [cntE_not hs] at hcnt
    clear hs
    go_wp2_with fail
    refine hcnt.mono ?_
    clear hcnt
    rintro e9 w2 ⟨rfl, rfl⟩
    go_wp2
    go_ret2
    exact ⟨HC.out, _, _, rfl, .inr ⟨HS.out, rfl, rfl⟩⟩
end Go.Proofs.Ytjmlekdgipinfaa
