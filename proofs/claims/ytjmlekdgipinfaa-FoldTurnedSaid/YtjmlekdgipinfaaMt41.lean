/- fold: two shapes, one behind the other. -/
import Derived.Test.YtjmlekdgipinfaaMt40
import Derived.Lib.AppendZerosOnto
import Derived.Deep.Cut
namespace Go.Proofs.Ytjmlekdgipinfaa
open Go.RowKit Go.Shelf

def GaveOw (w : World) (xs : List Int) (e : Ending) (w' : World) : Prop := ∃ v, e = .returned v ∧ Own w' w.heap.size 3 v xs ∧ Chg (fun _ => False) w w'
set_option maxRecDepth 100000 in
set_option maxHeartbeats 1000000 in
theorem grow_nil (n : Nat) (hn : n ≤ 1000000) (w : World) : Calls Try.prog 115 #[.slice none 0 0, .int .i64 n] w (GaveOw w []) := by
  have hw : IntKind.i64.wrap (n : Int) = (n : Int) := IntWalk.i64_in _ (by omega)
  have hneg : decide ((n : Int) < 0) = false := decide_eq_false (by omega)
  by_cases h0 : n = 0
  · subst h0
    go_enter Try.func115, Try.ntmps115
    go_wp2
    go_ret
    exact ⟨_, rfl, Own.nil _ _ _, Chg.refl _ _⟩
  · obtain ⟨i0, hi, hz0, hz1, hz2⟩ := info_parts info_int
    have hG := grownCap_ge w n 0 3
    have hGm := grownCap_le_maxLen w n 0 3 (by unfold maxLen; omega)
    have hrz : ∀ ty, (Builtin.append_ #[22, 3] ty #[.slice none 0 0, .int .i64 (n : Int)]).run Try.prog w =
        .ok (.slice (some ⟨w.heap.size, 0, none⟩) n (grownCap w n 0 3)) (w.drew.alloc (.cells ((#[] : Array Value) ++ Builtin.zeroCells (Value.int .i64 0).cells n ++ Builtin.zeroCells (Value.int .i64 0).cells (grownCap w n 0 3 - n)) 3)) := fun ty => by
      have h := Lib.run_append_grow_zeros (P := Try.prog) w 22 3 ty 3 i0 (.int .i64 0) .i64 .i64 Try.underlying22 Try.underlying3 hi hz0 none 0 0 [] (run_firstCells_none w.drew i0.size 0 0 0) n (by omega) (by rw [hz1]; decide) (by omega) (by omega) (by rw [hz2]; omega)
        (growslice_fits (by omega) (by rw [hz2]; omega))
      rw [Nat.zero_add] at h
      exact h
    obtain ⟨G, hGG⟩ : ∃ G, G = grownCap w n 0 3 := ⟨_, rfl⟩
    rw [← hGG] at hrz hG hGm
    have hpos : decide ((0 : Int) < (n : Int)) = true := decide_eq_true (by omega)
    have hpos2 : 0 < n := by omega
    have HG := Lib.hid (And.intro hG hGm)
    clear h0 hi hz0 hz1 hz2 hG hGm hGG
    go_enter Try.func115, Try.ntmps115
    go_wp2_with (at_builtin; refine Lib.wpList_append_run _ rfl _ _ _ _ rfl _ _ rfl rfl _ _ (hrz _) ?_)
    all_goals
      go_ret
      refine ⟨_, rfl, ⟨rfl, .inr ⟨w.heap.size, G, _, rfl, Nat.le_refl _, heap_alloc_new w.drew _, Nat.zero_le _, HG.out.2, ?_, ?_⟩⟩, (Chg.refl _ w).drew.alloc _⟩
      · have := HG.out.1
        rw [Array.size_append, size_zeroCells, size_zeroCells]
        show n * 1 + (G - n) * 1 = G * 1
        omega
      · simp
set_option maxRecDepth 100000 in
set_option maxHeartbeats 2000000 in
theorem concat_any (va vb : Value) (xs ys : List Int) (b : Nat) (w : World) (hX : Ls w va xs) (hY : Ls w vb ys) (hn : xs.length + ys.length ≤ 1000000) (y0 : w.cell? ⟨b, 0, none⟩ = some va) (y1 : w.cell? ⟨b, 1, none⟩ = some vb) : Calls Try.prog 84 #[.slice (some ⟨b, 0, none⟩) 2 2] w (GaveOw w (xs ++ ys)) := by
  obtain ⟨a1, c1, rfl, _⟩ := hX.form
  obtain ⟨a2, c2, rfl, _⟩ := hY.form
  obtain ⟨i0, hi, hz0, hz1, hz2⟩ := info_parts info_int
  have HN := Lib.hid hn
  have HX := Lib.hid hX
  have HY := Lib.hid hY
  obtain ⟨N, hN⟩ : ∃ N, xs.length + ys.length = N := ⟨_, rfl⟩
  have hg := grow_nil N (by omega) w
  have HNN := Lib.hid hN
  clear hX hY hn hN
  go_enter Try.func84, Try.ntmps84
  go_wp2_with fail
  go_loopw [3, 11] (fun v3 v11 wr => wr = w ∧ ((v11 = .int .i64 0 ∧ v3 = .int .i64 0) ∨ (v11 = .int .i64 1 ∧ v3 = .int .i64 xs.length) ∨ (v11 = .int .i64 2 ∧ v3 = .int .i64 N))) (fun _ v11 _ => 2 - (intOf v11).toNat)
  case atStart => exact ⟨rfl, .inl ⟨rfl, rfl⟩⟩
  case round =>
    obtain ⟨rfl, h⟩ := hrel
    rcases h with ⟨rfl, rfl⟩ | ⟨rfl, rfl⟩ | ⟨rfl, rfl⟩
    · have hw1 : IntKind.i64.wrap (xs.length : Int) = (xs.length : Int) := IntWalk.i64_in _ (by have := HN.out; omega)
      have hd : decide ((xs.length : Int) < 0) = false := decide_eq_false (by omega)
      go_wp2
      go_roundw
      case rel => exact ⟨by first | rfl | trivial, .inr (.inl ⟨rfl, rfl⟩)⟩
      case measure => decide
    · have hw1 : IntKind.i64.wrap ((xs.length : Int) + (ys.length : Int)) = (N : Int) := by rw [IntWalk.i64_in _ (by have := HN.out; omega)]; have := HNN.out; omega
      have hd : decide ((N : Int) < 0) = false := decide_eq_false (by omega)
      go_wp2
      go_roundw
      case rel => exact ⟨by first | rfl | trivial, .inr (.inr ⟨rfl, rfl⟩)⟩
      case measure => decide
    · go_wp2_with fail
      refine hg.mono ?_
      clear hg
      rintro e9 w1 ⟨v, rfl, hO, hC⟩
      obtain ⟨wo, rfl⟩ : ∃ wo : World, wo = wr := ⟨_, rfl⟩
      go_wp2_with fail
      go_loopw [6, 27] (fun v6 v27 wz => Chg (fun _ => False) wo wz ∧ ((v27 = .int .i64 0 ∧ Own wz wo.heap.size 3 v6 []) ∨ (v27 = .int .i64 1 ∧ Own wz wo.heap.size 3 v6 xs) ∨ (v27 = .int .i64 2 ∧ Own wz wo.heap.size 3 v6 (xs ++ ys)))) (fun _ v27 _ => 2 - (intOf v27).toNat)
      case atStart => exact ⟨hC, .inl ⟨rfl, hO⟩⟩
      case round =>
        clear hO hC
        obtain ⟨hCr, h⟩ := hrel
        replace y0 := hCr.cell y0 id
        replace y1 := hCr.cell y1 id
        rcases h with ⟨rfl, hO⟩ | ⟨rfl, hO⟩ | ⟨rfl, hO⟩
        · obtain ⟨al, Ll, cl, rfl, hL⟩ := own_nm hO
          subst hL
          have HO := Lib.hid hO
          have HCr := Lib.hid hCr
          clear hO hCr
          go_wp2_with (at_builtin; refine wpList_append_own_any rfl (.tmp 31) (.tmp 32) 22 rfl wo.heap.size 3 i0 (.int .i64 0) 1 8 Try.underlying22 hi hz0 hz1 hz2 rfl (by decide) (.slice al (([] : List Int)).length cl) (([] : List Int)).length ((([] : List Int)).map I) rfl HO.out a1 (xs).length c1 ((xs).map I) rfl (by rw [List.length_map, Nat.mul_one]) ((HX.out.fr HCr.out).src) (by intro u hu; obtain ⟨x, _, rfl⟩ := List.mem_map.1 hu; rfl) (by have := HN.out; unfold maxLen; simp; omega) (by have := HN.out; simp; omega) (by have := HCr.out.size; omega) ?_; intro v2 w2 hown2 hg2 _ hO2; have hC2 : Chg (fun _ => False) wo w2 := HCr.out.grown hg2 (fun k e => .inr (HO.out.lt k e).1); have O2 := Lib.hid (show Own w2 wo.heap.size 3 v2 (([] : List Int) ++ xs) from by unfold Own; rw [List.length_append, List.map_append]; exact hown2); obtain ⟨al2, L2, cl2, rfl, hL2⟩ := own_nm O2.out)
          go_roundw
          case rel => exact ⟨hC2, .inr (.inl ⟨rfl, O2.out⟩)⟩
          case measure => decide
        · obtain ⟨al, Ll, cl, rfl, hL⟩ := own_nm hO
          subst hL
          have HO := Lib.hid hO
          have HCr := Lib.hid hCr
          clear hO hCr
          go_wp2_with (at_builtin; refine wpList_append_own_any rfl (.tmp 31) (.tmp 32) 22 rfl wo.heap.size 3 i0 (.int .i64 0) 1 8 Try.underlying22 hi hz0 hz1 hz2 rfl (by decide) (.slice al (xs).length cl) (xs).length ((xs).map I) rfl HO.out a2 (ys).length c2 ((ys).map I) rfl (by rw [List.length_map, Nat.mul_one]) ((HY.out.fr HCr.out).src) (by intro u hu; obtain ⟨x, _, rfl⟩ := List.mem_map.1 hu; rfl) (by have := HN.out; unfold maxLen; omega) (by have := HN.out; omega) (by have := HCr.out.size; omega) ?_; intro v2 w2 hown2 hg2 _ hO2; have hC2 : Chg (fun _ => False) wo w2 := HCr.out.grown hg2 (fun k e => .inr (HO.out.lt k e).1); have O2 := Lib.hid (show Own w2 wo.heap.size 3 v2 (xs ++ ys) from by unfold Own; rw [List.length_append, List.map_append]; exact hown2); obtain ⟨al2, L2, cl2, rfl, hL2⟩ := own_nm O2.out)
          go_roundw
          case rel => exact ⟨hC2, .inr (.inr ⟨rfl, O2.out⟩)⟩
          case measure => decide
        · go_wp2
          go_ret
          exact ⟨_, rfl, hO, hCr⟩
def GaveLm (w : World) (xs : List Int) (e : Ending) (w' : World) : Prop := Chg (fun _ => False) w w' ∧ ∃ v n, e = .returned (.tuple #[v, .int .i64 n]) ∧ ((shB xs = true ∧ n = 0 ∧ Own w' w.heap.size 3 v xs) ∨ (shB xs = false ∧ n = 9 ∧ v = .slice none 0 0))
set_option maxRecDepth 100000 in
set_option maxHeartbeats 1000000 in
theorem limited_any (va vb : Value) (xs ys : List Int) (w : World) (hX : Ls w va xs) (hY : Ls w vb ys) (hn : xs.length + ys.length ≤ 1000000) : Calls Try.prog 49 #[va, vb] w (GaveLm w (xs ++ ys)) := by
  have hC0 := (Chg.refl (fun _ => False) w).alloc (.cells #[va, vb] 22)
  have hg := concat_any va vb xs ys w.heap.size _ (hX.fr hC0) (hY.fr hC0) hn (new_cell w #[va, vb] 22 (i := 0) rfl) (new_cell w #[va, vb] 22 (i := 1) rfl)
  obtain ⟨a1, c1, rfl, _⟩ := hX.form
  obtain ⟨a2, c2, rfl, _⟩ := hY.form
  clear hX hY hn
  obtain ⟨zs, hz⟩ : ∃ zs, xs ++ ys = zs := ⟨_, rfl⟩
  rw [hz] at hg ⊢
  clear hz
  have HC0 := Lib.hid hC0
  clear hC0
  go_enter Try.func49, Try.ntmps49
  go_wp2_with fail
  refine hg.mono ?_
  clear hg
  rintro e9 w1 ⟨v, rfl, hO, hC⟩
  have hcnt := count_any v zs w1 hO.ls
  obtain ⟨ao, c, rfl⟩ := own_name hO
  have HO := Lib.hid (hO.mono (Nat.le_of_lt (by rw [World.size_alloc]; exact Nat.lt_succ_self _)) : Own w1 w.heap.size 3 _ zs)
  have HC := Lib.hid (HC0.out.tr hC)
  unfold GaveC at hcnt
  clear hO hC HC0
  cases hs : shB zs with
  | true =>
    have HS := Lib.hid hs
    rw [cntE_ok hs] at hcnt
    clear hs
    go_wp2_with fail
    refine hcnt.mono ?_
    clear hcnt
    rintro e9 w2 ⟨rfl, rfl⟩
    go_wp2
    go_ret2
    exact ⟨HC.out, _, _, rfl, .inl ⟨HS.out, rfl, HO.out⟩⟩
  | false =>
    have HS := Lib.hid hs
    rw [cntE_not hs] at hcnt
    clear hs
    go_wp2_with fail
    refine hcnt.mono ?_
    clear hcnt
    rintro e9 w2 ⟨rfl, rfl⟩
    go_wp2
    go_ret2
    exact ⟨HC.out, _, _, rfl, .inr ⟨HS.out, rfl, rfl⟩⟩
end Go.Proofs.Ytjmlekdgipinfaa
