/- array.Make: an array of numbers that are made one by one. -/
import Derived.Test.YtnjnajbdpaaikaaArH
namespace Go.Proofs.Ytnjnajbdpaaikaa
open Go.RowKit Go.Shelf

/-- A function of a number from 0 on. -/
def FnI (w : World) (gf : Nat) (lb : Array Value) (N : Nat) (el : Nat → Int) : Prop :=
  (∀ args w, (callFunc gf args).run Try.prog w = .ok (.enter gf args) w) ∧ ∀ i, i < N → ∀ w', Chg (fun _ => False) w w' → Calls Try.prog gf (#[.int .i64 i] ++ lb) w' (GaveI w' (el i))
theorem FnI.fr {w w' : World} {gf : Nat} {lb : Array Value} {N : Nat} {el : Nat → Int} (h : FnI w gf lb N el) (hC : Chg (fun _ => False) w w') : FnI w' gf lb N el := ⟨h.1, fun i hi w2 h2 => h.2 i hi w2 (hC.tr h2)⟩
def mkL (n : Nat) (el : Nat → Int) : List Int := (List.range n).map el
theorem mkL_length (n : Nat) (el : Nat → Int) : (mkL n el).length = n := by simp [mkL]
theorem mkL_succ (n : Nat) (el : Nat → Int) : mkL (n + 1) el = mkL n el ++ [el n] := by simp [mkL, List.range_succ]
theorem mkL_get (n : Nat) (el : Nat → Int) (i : Nat) (h : i < n) : (mkL n el)[i]? = some (el i) := by simp [mkL, h]
set_option maxRecDepth 100000 in
set_option maxHeartbeats 2000000 in
theorem make_any (v : Value) (s : List Int) (n gf : Nat) (lb : Array Value) (el : Nat → Int) (w : World) (hS : Ls w v s) (hsh : shB s = true) (hn : prodL s = (n : Int)) (hF : FnI w gf lb n el) : Calls Try.prog 51 #[.int .i64 1, v, .func (.func gf) #[] lb] w (GaveAE w ⟨1, s, mkL n el⟩ 0) := by
  obtain ⟨as_, cs, rfl, _⟩ := hS.form
  have HS := Lib.hid hS
  clear hS
  have hsh1 := shB_iff.1 hsh
  have hn1 : n ≤ 4096 := by have := hsh1.2.2; omega
  have hsl : s.length ≤ 1000000 := by have := hsh1.1; omega
  obtain ⟨i0, hi, hz0, hz1, hz2⟩ := info_parts info_long
  have hC0 := (Chg.refl (fun _ => False) w).alloc (.cells #[.int .i64 0, .slice none 0 0, .slice none 0 0] 25)
  have hB0 := Bx.new w (.int .i64 0) (.slice none 0 0) (.slice none 0 0) 25
  have hcnt := count_any _ s _ (HS.out.fr hC0)
  unfold GaveC at hcnt
  rw [cntN_ok hsh, cntE_ok hsh, hn] at hcnt
  have HCK := Lib.hid (show ∀ xs : List Int, xs.length = n → chkE ⟨1, s, xs⟩ = 0 from fun xs h => by rw [chkE_zero, chkB_iff]; exact ⟨hsh, by rw [hn, ← h], by rw [kndB_iff]; exact .inl rfl⟩)
  have HF := Lib.hid hF
  have eg := hF.1
  clear hsh hsh1 hn hF
  go_enter Try.func51, Try.ntmps51
  go_wp2_with fail
  refine hcnt.mono ?_
  clear hcnt
  rintro e9 w1 ⟨rfl, hw1⟩
  rw [← hw1] at hC0 hB0
  clear hw1
  have hcl := cloneI_any _ s w1 (HS.out.fr hC0) hsl
  have hs1 : w.heap.size + 1 ≤ w1.heap.size := by have := hB0.lt; omega
  go_wp2_with fail
  refine hcl.mono ?_
  clear hcl
  rintro e9 w2 ⟨v2, rfl, ho2, hC2⟩
  obtain ⟨a2, c2', rfl⟩ := own_name ho2
  have hs2 := hC2.size
  go_wp2
  have hM0 : Mak w1 (w2.alloc (.cells #[.int .i64 1, .slice a2 s.length c2', .slice none 0 0] 25)) w2.heap.size w1.heap.size (w2.alloc (.cells #[.int .i64 1, .slice a2 s.length c2', .slice none 0 0] 25)).heap.size 1 (.slice a2 s.length c2') (.slice none 0 0) s [] :=
    ⟨Bx.new w2 _ _ _ _, ho2.alloc _, Own.nil _ _ _, hC2.alloc _, hs2, by simp, fun q hq => by have := (ho2.lt q hq).2; rw [World.size_alloc]; omega⟩
  obtain ⟨W0, hW0⟩ : ∃ W0, w2.alloc (.cells #[.int .i64 1, .slice a2 s.length c2', .slice none 0 0] 25) = W0 := ⟨_, rfl⟩
  have hsz : W0.heap.size = w2.heap.size + 1 := by rw [← hW0]; simp
  rw [hW0] at hM0 ⊢
  clear hW0
  have HSZ := Lib.hid hsz
  clear hsz ho2
  go_loopw [27] (fun i wr => ∃ j : Nat, j ≤ n ∧ i = .int .i64 j ∧ (∃ v, Mak w1 wr w2.heap.size w1.heap.size W0.heap.size 1 (.slice a2 s.length c2') v s (mkL j el))) (fun i _ => n - (intOf i).toNat)
  case atStart => exact ⟨0, Nat.zero_le _, rfl, ⟨_, hM0⟩⟩
  case round =>
    obtain ⟨j, hj, rfl, ⟨v, hM⟩⟩ := hrel
    clear hM0
    obtain ⟨xs, hxs⟩ : ∃ xs, mkL j el = xs := ⟨_, rfl⟩
    have hxl : xs.length = j := by rw [← hxs, mkL_length]
    rw [hxs] at hM
    obtain ⟨al, Ll, cl, rfl, hL⟩ := own_nm hM.el
    have hch := hM.ch
    by_cases hlt : j < n
    · have hlt' : (j : Int) < (n : Int) := by omega
      have hkw : IntKind.i64.wrap ((j : Int) + 1) = (j : Int) + 1 := IntWalk.i64_in _ (by omega)
      have HT := Lib.hid (show mkL (j + 1) el = xs ++ [el j] by rw [mkL_succ, hxs])
      have c2 := hM.bx.c2
      have f2 := hM.bx.f2
      have HCC := Lib.hid c2
      have HM3 := Lib.hid hM
      have hw3 : w2.heap.size + 1 ≤ wr.heap.size := by have := HM3.out.bx.lt; omega
      have hblt : w2.heap.size < wr.heap.size := hw3
      have hw4 : W0.heap.size ≤ wr.heap.size := by have := HSZ.out; omega
      have hfl := HF.out.2 j hlt wr.drew ((hC0.tr hch).drew)
      unfold GaveI at hfl
      generalize el j = y at *
      have hm1 : n - (j + 1) < n - j := by omega
      have HM1 := Lib.hid hm1
      clear hM hch hxs hB0 hm1
      go_wp2_with fail
      go_region_law (first
        | (refine step_append_own (by rfl) (.tmp 31) (.tmp 35) 23 (by rfl) W0.heap.size 2 i0 (.int .i64 0) 1 8 Try.underlying23 hi hz0 hz1 hz2 rfl (by decide) (.slice al Ll cl) xs.length (xs.map I) (by simp [Act.eval]) ((HM3.out.el.fr ((Chg.refl _ _).drew.tr hC9)).alloc _) (some ⟨w9.heap.size, 0, none⟩) 1 1 [.int .i64 y] (by simp [Act.eval]) rfl (fun j u hu => ⟨_, rfl, cell_one_new w9 _ _ j u hu⟩) (by simp [Value.oneCell']) (by unfold maxLen; omega) (by omega) (by have := hC9.size; simp at this ⊢; omega) ?_; intro v2 w4 hown2 hg2 _ hO2; obtain ⟨⟨hd1, hd2⟩, hM4⟩ := HM3.out.more (((Chg.refl _ wr).drew.tr hC9).alloc _) hg2 hown2 rfl; obtain ⟨al2, L2, cl2, rfl, hL2⟩ := own_nm hM4.el)
        | (go_simp; (with_reducible refine hfl.mono ?_); rintro e9 w9 ⟨rfl, hC9⟩; have hb9 : w2.heap.size < w9.heap.size := (by have h8 := hC9.size; simp at h8; omega); replace c2 := hC9.cell (p := ⟨w2.heap.size, 2, none⟩) (w := wr.drew) HCC.out id; replace f2 := hC9.frozen (p := ⟨w2.heap.size, 2, none⟩) (w := wr.drew) HCC.out f2 id))
      all_goals
        go_wp2
        go_roundw
        case rel => exact ⟨j + 1, hlt, by go_num, ⟨_, by rw [HT.out]; exact hM4⟩⟩
        case measure => exact HM1.out
    · obtain rfl : j = n := by omega
      have hj2 : ¬ (j : Int) < (j : Int) := by omega
      have HX := Lib.hid hxs
      have c0 := hM.bx.c0
      have c1 := hM.bx.c1
      have c2 := hM.bx.c2
      have hck := check_any _ ⟨1, s, xs⟩ wr (Ara.mk (k := 1) hM.sh.ls hM.el.ls) (show xs.length ≤ 1000000 by omega)
      rw [HCK.out xs hxl] at hck
      have HM := Lib.hid hM
      have HW := Lib.hid (And.intro hs1 hs2)
      clear hxs hM hch hs1 hs2
      go_wp2_with fail
      refine hck.mono ?_
      clear hck
      rintro e9 w3 ⟨rfl, hC3⟩
      have hM3 := HM.out.fr hC3
      obtain ⟨z0, z1, z2, x0', x1', x2'⟩ := hB0.fr hM3.ch
      replace c0 := hC3.cell c0 id
      replace c1 := hC3.cell c1 id
      replace c2 := hC3.cell c2 id
      obtain ⟨⟨g0, g1⟩, g2⟩ := set3_cells (.int .i64 1) (.slice a2 s.length c2') (.slice al Ll cl) z0 z1 z2
      have HM3 := Lib.hid hM3
      clear hM3 hC3
      go_wp2
      simp [bodyPost, results, Try.results51, go_sem, g0, g1, g2]
      rw [HX.out]
      exact leaveAE HM3.out.sh HM3.out.el (Nat.le_refl _) (by have := HW.out; omega) (by have := HW.out; have := HSZ.out; omega) (hC0.tr HM3.out.ch)
end Go.Proofs.Ytnjnajbdpaaikaa
