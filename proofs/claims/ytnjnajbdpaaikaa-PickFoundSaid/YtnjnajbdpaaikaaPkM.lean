/- pick: ways; compress' function. -/
import Derived.Test.YtnjnajbdpaaikaaPkL
import Derived.Deep.RegionHeld3
import Derived.Laws.EntriesVeiled
namespace Go.Proofs.Ytnjnajbdpaaikaa
open Go.RowKit Go.Shelf

theorem mset2 {w : World} {g : Nat} {z0 z1 : Value} (a b : Value) (h0 : w.cell? ⟨g, 0, none⟩ = some z0) (h1 : w.cell? ⟨g, 1, none⟩ = some z1) :
    ((w.setCell ⟨g, 0, none⟩ a).setCell ⟨g, 1, none⟩ b).cell? ⟨g, 0, none⟩ = some a ∧ ((w.setCell ⟨g, 0, none⟩ a).setCell ⟨g, 1, none⟩ b).cell? ⟨g, 1, none⟩ = some b := by
  have e0 : (w.setCell ⟨g, 0, none⟩ a).cell? ⟨g, 0, none⟩ = some a := World.cell?_setCell_same' _ _ _ (by rw [h0]; rfl)
  exact ⟨by rw [World.cell?_setCell_other _ _ _ _ (by simp), e0], World.cell?_setCell_same' _ _ _ (by rw [World.cell?_setCell_other _ _ _ _ (by simp), h1]; rfl)⟩
theorem mway_store {D0 D3 : Nat → Prop} {w w3 : World} {rb x : Nat} {a b : Value} {W : Wy} {n : Int} (hW : WayAt w3 D3 (.agg #[a, b]) W) (hD : ∀ k, D3 k → D0 k ∨ x ≤ k) (hx : w.heap.size ≤ x) (hrb : w.heap.size ≤ rb) (hn : ¬ D3 rb) (hC : Chg (fun _ => False) w w3) (he : n = W.n) :
    GaveWD D0 w W (.returned (.tuple #[.agg #[a, b], .int .i64 n])) ((w3.setCell ⟨rb, 0, none⟩ a).setCell ⟨rb, 1, none⟩ b) := by
  subst he
  exact ⟨_, D3, rfl, hW.old (((Chg.refl _ w3).setCell (p := ⟨rb, 0, none⟩) (.inl hn) a).setCell (p := ⟨rb, 1, none⟩) (.inl hn) b), fun k hk => (hD k hk).imp id (fun h => Nat.le_trans hx h),
    (hC.setCell (p := ⟨rb, 0, none⟩) (.inr hrb) a).setCell (p := ⟨rb, 1, none⟩) (.inr hrb) b⟩
theorem mway_no {D0 : Nat → Prop} {w w3 : World} {rb : Nat} {n : Int} (hn : n ≠ 0) (hrb : w.heap.size ≤ rb) (hC : Chg (fun _ => False) w w3) :
    GaveWD D0 w (noW n) (.returned (.tuple #[.agg #[.slice none 0 0, .nilFunc], .int .i64 n])) ((w3.setCell ⟨rb, 0, none⟩ (.slice none 0 0)).setCell ⟨rb, 1, none⟩ .nilFunc) :=
  ⟨_, fun _ => False, rfl, .inr ⟨hn, rfl, rfl, rfl⟩, fun _ h => h.elim, (hC.setCell (p := ⟨rb, 0, none⟩) (.inr hrb) _).setCell (p := ⟨rb, 1, none⟩) (.inr hrb) _⟩
theorem mway_agg {w : World} {D : Nat → Prop} {v : Value} {W : Wy} (h : WayAt w D v W) : ∃ x0 x1, v = .agg #[x0, x1] ∧ x0.oneCell' = true ∧ x1.oneCell' = true := by
  rcases h with ⟨_, vs, gf, lb, e, hs, _⟩ | ⟨_, _, _, e⟩
  · obtain ⟨_, _, rfl, _⟩ := hs.form
    exact ⟨_, _, e, rfl, rfl⟩
  · exact ⟨_, _, e, rfl, rfl⟩
theorem cneg_any (n : Int) (w : World) : Calls Try.prog 60 (#[.int .i64 n] ++ #[]) w (GaveBo w (decide (n < 0))) := by
  go_enter Try.func60, Try.ntmps60
  go_wp2
  go_ret
  exact ⟨rfl, Chg.refl _ _⟩
theorem cnegs_any (v : Value) (xs : List Int) (w : World) (hS : Ls w v xs) (hl : xs.length ≤ 1000000) : Calls Try.prog 59 #[v, .func (.func 60) #[] #[]] w (GaveBo w (xs.any (fun n => decide (n < 0)))) :=
  containsF_any 60 #[] (enters_of Try.func60 (by kernel_rfl) rfl) (fun n => decide (n < 0)) v xs w hS hl (fun x _ w' _ => cneg_any x w')
theorem cw2_nil (b1 b2 b3 i cs : Nat) (sa : Option Addr) (w : World) (h1 : w.cell? ⟨b1, 0, none⟩ = some (.slice sa 0 cs)) : Calls Try.prog 63 (#[.int .i64 (i : Int)] ++ #[.pointer (some ⟨b1, 0, none⟩), .pointer (some ⟨b2, 0, none⟩), .pointer (some ⟨b3, 0, none⟩)]) w (GaveII w 0 0) := by
  go_enter Try.func63, Try.ntmps63
  go_wp2
  go_ret2
  exact ⟨rfl, Chg.refl _ _⟩
set_option maxHeartbeats 1000000 in
theorem cw2_cons (b1 b2 b3 i n M cs cc : Nat) (had : Int) (sa pa : Option Addr) (c : List Int) (w : World) (h1 : w.cell? ⟨b1, 0, none⟩ = some (.slice sa n cs)) (hn : 0 < n) (h2 : w.cell? ⟨b2, 0, none⟩ = some (.slice pa M cc)) (hM : c.length = M) (hM0 : 0 < M) (hc : Ls w (.slice pa M cc) c) (h3 : w.cell? ⟨b3, 0, none⟩ = some (.int .i64 had))
    (hb : 0 ≤ had ∧ had ≤ 4096) (hi : i ≤ 4096) (hcb : ∀ x ∈ c, 0 ≤ x ∧ x ≤ 1000000) : Calls Try.prog 63 (#[.int .i64 (i : Int)] ++ #[.pointer (some ⟨b1, 0, none⟩), .pointer (some ⟨b2, 0, none⟩), .pointer (some ⟨b3, 0, none⟩)]) w (GaveII w 0 ((i : Int) / (M : Int) * had + c.getD ((i : Int) % (M : Int)).toNat 0)) := by
  have hMl := hc.len
  rw [hM] at hMl
  obtain ⟨q, hq⟩ : ∃ q : Nat, i / M = q := ⟨_, rfl⟩
  obtain ⟨r, hr⟩ : ∃ r : Nat, i % M = r := ⟨_, rfl⟩
  have hr2 : r < M := by rw [← hr]; exact Nat.mod_lt _ hM0
  have hq2 : q ≤ 4096 := by rw [← hq]; exact Nat.le_trans (Nat.div_le_self _ _) hi
  have e1 : (i : Int) / (M : Int) = (q : Int) := by rw [← hq]; exact (Int.natCast_ediv _ _).symm
  have e2 : (i : Int) % (M : Int) = (r : Int) := by rw [← hr]; exact (Int.natCast_emod _ _).symm
  have t1 : Int.tdiv (i : Int) (M : Int) = (q : Int) := by rw [Int.tdiv_eq_ediv_of_nonneg (by omega)]; exact e1
  have t2 : Int.tmod (i : Int) (M : Int) = (r : Int) := by rw [Int.tmod_eq_emod_of_nonneg (by omega)]; exact e2
  rw [e1, e2]
  have hrc : r < c.length := by omega
  obtain ⟨bb, oo, c2, e3, hcell⟩ := hc.at hrc
  rw [hM] at e3
  injection e3 with e3 e4 e5
  subst e3
  have hx := hcb c[r] (List.getElem_mem hrc)
  have hg : c.getD ((r : Int)).toNat 0 = c[r] := by simp [List.getD, hrc]
  rw [hg]
  generalize c[r] = x at *
  have p0 : 0 ≤ (q : Int) * had := Int.mul_nonneg (by omega) hb.1
  have p1 : (q : Int) * had ≤ 4096 * 4096 := Int.mul_le_mul (by omega) hb.2 hb.1 (by decide)
  have k1 : IntKind.i64.wrap (q : Int) = (q : Int) := IntWalk.i64_in _ (by omega)
  have k2 : IntKind.i64.wrap (r : Int) = (r : Int) := IntWalk.i64_in _ (by omega)
  obtain ⟨P, hP⟩ : ∃ P, (q : Int) * had = P := ⟨_, rfl⟩
  rw [hP] at p0 p1 ⊢
  have k3 : IntKind.i64.wrap ((q : Int) * had) = P := by rw [hP]; exact IntWalk.i64_in _ (by omega)
  have k4 : IntKind.i64.wrap (P + x) = P + x := IntWalk.i64_in _ (by omega)
  have m0 : ¬ (M : Int) = 0 := by omega
  have m1 : ¬ M = 0 := by omega
  have r0 : (0 : Int) ≤ (r : Int) := by omega
  have r1 : (r : Int) < (M : Int) := by omega
  have n0 : ((n : Int) == 0) = false := beq_eq_false_iff_ne.2 (by omega)
  clear hq hr e1 e2 hrc hg hP hx hcb hb hi hc hM e4 e5 hr2 hq2 hn hM0 hMl
  go_enter Try.func63, Try.ntmps63
  go_wp2
  go_quiet (fail)
  go_wp2
  go_ret2
  exact ⟨rfl, by first | exact (Chg.refl _ _).drewN _ | exact (Chg.refl _ _).drew⟩
end Go.Proofs.Ytnjnajbdpaaikaa
