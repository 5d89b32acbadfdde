/- turn: the places of a number, told the last axis first. -/
import Derived.Test.YtjmlekdgipinfaaMt12
import Derived.Test.YtjmlekdgipinfaaMt14
import Derived.Stop.RegionWithIn
namespace Go.Proofs.Ytjmlekdgipinfaa
open Go.RowKit Go.Shelf

theorem atL_get : ∀ (s : List Int) (n : Int) (i : Nat) (h : i < s.length) (h2 : i < (atL s n).length), (atL s n)[i] = n / prodL (s.drop (i + 1)) % s[i]
  | a :: r, n, 0, _, _ => rfl
  | a :: r, n, i + 1, h, h2 => by
    simp only [atL, List.getElem_cons_succ, List.drop_succ_cons]
    exact atL_get r n i (by simpa using h) _
  | [], n, i, h, _ => absurd h (Nat.not_lt_zero _)
/-- The last axes, the last one first. -/
def downF (r k : Nat) : List (Fin r) := ((List.finRange r).reverse).take k
theorem downF_zero (r : Nat) : downF r 0 = [] := rfl
theorem downF_length {r k : Nat} (h : k ≤ r) : (downF r k).length = k := by simp [downF]; omega
theorem downF_succ {r k j : Nat} (h : j + k + 1 = r) : downF r (k + 1) = downF r k ++ [⟨j, by omega⟩] := by
  unfold downF
  rw [List.take_succ_eq_append_getElem (by simp; omega)]
  congr 2
  rw [List.getElem_reverse]
  simp only [List.getElem_finRange, List.length_finRange]
  apply Fin.ext
  simp
  omega
def digL (S : List Int) (n : Int) (i : Fin S.length) : Int := n / prodL (S.drop (i.val + 1)) % S[i.val]
def encF (S : List Int) (n : Int) (i : Fin S.length) : Array Value := #[.int .i64 (i.val : Nat), .int .i64 (digL S n i)]
def CellAt (w : World) (b i : Nat) (v : Value) : Prop := w.cell? ⟨b, i, none⟩ = some v
theorem numbers_any (ao : Option Addr) (L c : Nat) (n : Int) (w : World) : Calls Try.prog 141 #[.slice ao L c, .int .i64 n] w fun e w' => e = .returned (.func (.func 142) #[] #[.pointer (some ⟨w.heap.size, 0, none⟩), .pointer (some ⟨w.heap.size + 1, 0, none⟩)]) ∧ w' = (w.alloc (.cells #[.slice ao L c] 22)).alloc (.cells #[.int .i64 n] 3) := by
  go_enter Try.func141, Try.ntmps141
  go_wp2
  go_ret
  exact ⟨rfl, rfl⟩
theorem Ls.keep {R : Nat → Prop} {w w' : World} {v : Value} {xs : List Int} (h : Ls w v xs) (hK : Keep R w w') (hn : ∀ k, v.ownBlock = some k → R k) : Ls w' v xs :=
  ⟨Sl.form h, fun j u hu => by obtain ⟨b, o, c, rfl, hc⟩ := Sl.cells h j u hu; exact ⟨b, o, c, rfl, (hK.cell (p := ⟨b, o + j, none⟩) (hn b rfl)).trans hc⟩⟩
set_option maxRecDepth 100000 in
set_option maxHeartbeats 2000000 in
theorem numbers1_in (l b1 b2 : Nat) (v : Value) (S : List Int) (n : Int) (hb : b1 ≠ b2) (hvb : v.ownBlock ≠ some b2) (hsh : shB S = true) (h0 : 0 ≤ n) (hn : n ≤ 4096) (hpos : ∀ x ∈ S, 0 < x) (J Jx : List (Fin S.length) → World → Prop)
    (hY : ∀ pre x W1, J pre W1 → pre.length < S.length → YieldAt Fence.wide 6 Try.prog l (encF S n x) W1 fun e W' =>
      (e = .returned (.bool true) ∧ J (pre ++ [x]) W' ∧ Keep (fun k => k = b2 ∨ k = b1 ∨ v.ownBlock = some k) W1 W') ∨ (e = .returned (.bool false) ∧ Jx (pre ++ [x]) W'))
    (W : World) (hJ : AbidesT (fun k => k = b2) J) (hc1 : W.cell? ⟨b1, 0, none⟩ = some v) (hc2 : W.cell? ⟨b2, 0, none⟩ = some (.int .i64 n)) (hf2 : W.frozen? ⟨b2, 0, none⟩ = false) (hS : Ls W v S) (hJ0 : J [] W) :
    CallsIn Fence.wide 7 Try.prog 142 #[.func (.yield l) #[] #[], .pointer (some ⟨b1, 0, none⟩), .pointer (some ⟨b2, 0, none⟩)] W fun e W' => (∃ v, e = .returned v) ∧
      ((∃ ys, ys = downF S.length S.length ∧ J ys W') ∨ (∃ pre, (∃ k, k ≤ S.length ∧ pre = downF S.length k) ∧ Jx pre W')) := by
  obtain ⟨ao, c, rfl, _⟩ := hS.form
  have hl4 := (shB_iff.1 hsh).1
  have HB := Lib.hid (shB_iff.1 hsh).2.1
  have HP := Lib.hid hpos
  have hwl : IntKind.i64.wrap ((S.length : Int) - 1) = (S.length : Int) - 1 := IntWalk.i64_in _ (by omega)
  clear hsh hpos
  (refine callsIn_of_wp Try.func142 rfl trivial ?_ rfl; simp only [Try.ntmps142, List.size_toArray, List.length_cons, List.length_nil, Nat.reduceAdd, Nat.reduceSub, Array.replicate_succ, Array.replicate_zero, List.push_toArray, List.append_toArray, List.nil_append, List.cons_append])
  refine wpIn_wide.2 ?_
  go_wp2
  refine (wpIn_wide (n := 7)).1 ?_
  gi_loopw [4] (fun i wr => ∃ (k : Nat) (q : Int), k ≤ S.length ∧ i = .int .i64 q ∧ q = (S.length : Int) - 1 - k ∧ J (downF S.length k) wr ∧ (∃ N, N = n / prodL (S.drop (S.length - k)) ∧ CellAt wr b2 0 (.int .i64 N)) ∧ wr.frozen? ⟨b2, 0, none⟩ = false ∧ CellAt wr b1 0 (.slice ao S.length c) ∧ Ls wr (.slice ao S.length c) S)
    (fun i _ => (intOf i + 1).toNat)
  case atStart => exact ⟨0, _, Nat.zero_le _, rfl, by omega, hJ0, ⟨n, by rw [Nat.sub_zero, List.drop_length]; simp [prodL], hc2⟩, hf2, hc1, hS⟩
  case round =>
    obtain ⟨k, q, hk, rfl, hq, hJs, ⟨N, hN, hcn⟩, hfn, hcs, hSr⟩ := hrel
    unfold CellAt at hcn hcs
    by_cases hlt : k < S.length
    · obtain ⟨j, hjk⟩ : ∃ j, j + k + 1 = S.length := ⟨S.length - 1 - k, by omega⟩
      obtain rfl : q = (j : Int) := by omega
      have hjl : j < S.length := by omega
      rw [show S.length - k = j + 1 by omega] at hN
      obtain ⟨g1, g2, g3, g4⟩ := at_step hjl n HP.out h0 hn
      rw [← hN] at g2 g3 g4
      have HT := Lib.hid (show downF S.length (k + 1) = downF S.length k ++ [⟨j, hjl⟩] from downF_succ hjk)
      have hdl := downF_length hk
      have hdig : digL S n ⟨j, hjl⟩ = N % S[j] := by unfold digL; rw [hN]
      obtain ⟨b, o, c', e1, hc⟩ := hSr.at hjl
      injection e1 with e1 e2 e3
      clear e2 e3
      subst e1
      have hx0 := HP.out _ (List.getElem_mem hjl)
      have hx1 := (HB.out _ (List.getElem_mem hjl)).2
      generalize S[j] = x at *
      obtain ⟨r, hr⟩ : ∃ r, N % x = r := ⟨_, rfl⟩
      obtain ⟨d, hd⟩ : ∃ d, N / x = d := ⟨_, rfl⟩
      rw [hr] at hdig
      rw [hd] at g2
      have hd0 : 0 ≤ d := by rw [← hd]; exact Int.ediv_nonneg g3 (by omega)
      have hd1 : d ≤ 4096 := by rw [← hd]; exact Int.le_trans (Int.ediv_le_self _ g3) g4
      have e4 : Int.tmod N x = r := by rw [Int.tmod_eq_emod_of_nonneg g3]; exact hr
      have e5 : Int.tdiv N x = d := by rw [Int.tdiv_eq_ediv_of_nonneg g3]; exact hd
      have e6 : IntKind.i64.wrap d = d := IntWalk.i64_in _ (by omega)
      have e7 : wrap64 d = d := by rw [show wrap64 d = IntKind.i64.wrap d by rw [IntKind.wrap_i64, wrap64]]; exact e6
      have e8 : IntKind.i64.wrap ((j : Int) - 1) = (j : Int) - 1 := IntWalk.i64_in _ (by omega)
      have G2 := Lib.hid g2
      have hx2 : ¬ x = 0 := by omega
      have hi0 : (0 : Int) ≤ (j : Int) := by omega
      have hi1 : (j : Int) < (S.length : Int) := by omega
      obtain ⟨fn, tmps, assign, body, hy, hRd⟩ := hY _ ⟨j, hjl⟩ wr.drew (hJ _ _ _ hJs ((Chg.refl _ _).drew)) (by rw [hdl]; exact hlt)
      simp only [encF, hdig] at hy
      have HS := Lib.hid hSr
      have HJK := Lib.hid hjk
      clear hq hr hd g1 g2 hN hSr hjk hdig hdl hk
      have hRd' := hRd.mono (R' := fun e W' => ∃ bb, e = .returned (.bool bb) ∧ (bb = true → J (downF S.length k ++ [⟨j, hjl⟩]) W' ∧ Keep (fun k => k = b2 ∨ k = b1 ∨ Value.ownBlock (.slice (some ⟨b, o, none⟩) S.length c) = some k) wr.drew W') ∧ (bb = false → Jx (downF S.length k ++ [⟨j, hjl⟩]) W')) (by
        rintro e W3 (⟨rfl, h1, h2⟩ | ⟨rfl, h1⟩)
        · exact ⟨true, rfl, fun _ => ⟨h1, h2⟩, fun h => by cases h⟩
        · exact ⟨false, rfl, fun h => by (cases h), fun _ => h1⟩)
      clear hRd
      gi_wp2
      gi_region_with ((with_reducible refine hRd'.mono ?_); rintro e9 W3 ⟨bb, rfl, ht, hf⟩)
      all_goals
        cases bb with
        | false =>
          have hx9 := hf rfl
          clear ht hf
          gi_wp2
          go_end0
          exact ⟨⟨_, rfl⟩, .inr ⟨_, ⟨k + 1, hlt, HT.out.symm⟩, hx9⟩⟩
        | true =>
          obtain ⟨hJ3, hk3⟩ := ht rfl
          clear ht hf
          have hcn3 := (hk3.cell (p := ⟨b2, 0, none⟩) (.inl rfl)).trans hcn
          have hfn3 := (hk3.frozen (p := ⟨b2, 0, none⟩) (.inl rfl)).trans hfn
          have hcs3 := (hk3.cell (p := ⟨b1, 0, none⟩) (.inr (.inl rfl))).trans hcs
          have hLs3 := Lib.hid (Ls.keep (show Ls wr.drew _ S from HS.out.fr ((Chg.refl _ _).drew)) hk3 (fun q e => .inr (.inr e)))
          have hc3 := (hk3.cell (p := ⟨b, o + j, none⟩) (.inr (.inr rfl))).trans hc
          gi_wp2
          gi_region
          all_goals
            gi_wp2
            go_roundw
            case rel =>
              refine ⟨k + 1, _, hlt, rfl, by have := HJK.out; omega, ?_, ⟨_, rfl, ?_⟩, ?_, ?_, ?_⟩
              · rw [HT.out]; exact hJ _ _ _ hJ3 (chg_cell W3 b2 0 _).drew
              · show World.cell? (W3.setCell ⟨b2, 0, none⟩ (.int .i64 d)) ⟨b2, 0, none⟩ = _
                rw [World.cell?_setCell_same' _ _ _ (by rw [hcn3]; rfl), show S.length - (k + 1) = j by have := HJK.out; omega, G2.out]
              · show World.frozen? (W3.setCell ⟨b2, 0, none⟩ (.int .i64 d)) ⟨b2, 0, none⟩ = _
                rw [World.frozen?_setCell]; exact hfn3
              · exact (chg_cell W3 b2 0 _).drew.cell hcs3 hb
              · exact Ls.chg (hLs3.out) (chg_cell W3 b2 0 _).drew (fun q e h => hvb (by rw [← h]; exact e))
            case measure => first | (simp [intOf]; done) | (simp [intOf]; omega)
    · obtain rfl : k = S.length := by omega
      have hq0 : ¬ 0 ≤ q := by omega
      have hqd : decide (0 ≤ q) = false := decide_eq_false hq0
      clear hq hN
      gi_wp2
      refine wpIn_region_quiet_lit rfl (by kernel_rfl) (by kernel_rfl) ?_
      repeat (gi_big_quiet_step (fail))
      refine BigFrame.wpQuietIn_skip (fun _ _ f _ => by first | trivial | simp [Fence.wide]) rfl ?_
      go_simp
      repeat (gi_big_quiet_step (fail))
      refine wpQuietIn_nil ?_
      intro nq
      gi_wp2
      go_end0
      exact ⟨⟨_, rfl⟩, .inl ⟨_, rfl, hJ _ _ _ hJs ((Chg.refl _ _).drewN _)⟩⟩
end Go.Proofs.Ytjmlekdgipinfaa
