/- TileWrites' walk. -/
import Derived.Test.YtccpmbonipfmpaaTlP
import Derived.Test.YtccpmbonipfmpaaTlK
namespace Go.Proofs.Ytccpmbonipfmpaa
open Go.RowKit

theorem info_i64 : (Try.prog.info? 2).map (fun i => (i.zero, i.size, i.bytes)) = some (some (.int .i64 0), 1, 8) := by kernel_rfl
theorem und_i64s : Try.prog.underlying 22 = some (.slice 2) := by kernel_rfl

set_option maxRecDepth 100000 in
theorem writes_big (f no k s : Int) (ao : Option Addr) (n c : Nat) (W : World) (h1 : (1500 : Int) < n) : Calls Try.prog 3 #[.agg #[.int .i64 f, .int .i64 no, .int .i64 k, .slice ao n c], .int .i64 s] W (True_ W) := by
  go_enter Try.func3, Try.ntmps3
  go_wp2
  go_ret
  exact ⟨rfl, (Chg.refl _ W).alloc _⟩
theorem writes_cells {W w2 : World} {f no k : Int} {ao : Option Addr} {n c : Nat} (hg : (((W.alloc (.cells #[.int .i64 f, .int .i64 no, .int .i64 k, .slice ao n c] 24)).alloc (.cells #[.int .i64 f, .int .i64 no, .int .i64 k, .slice ao n c] 24)).alloc (.cells #[] 2)).grownBy w2 (Value.slice (some ⟨W.heap.size + 1 + 1, 0, none⟩) 0 0).ownBlock) :
    Chg (fun q => q = W.heap.size + 1 + 1) (((W.alloc (.cells #[.int .i64 f, .int .i64 no, .int .i64 k, .slice ao n c] 24)).alloc (.cells #[.int .i64 f, .int .i64 no, .int .i64 k, .slice ao n c] 24)).alloc (.cells #[] 2)) w2 ∧
    w2.cell? ⟨W.heap.size, 0, none⟩ = some (.int .i64 f) ∧ w2.cell? ⟨W.heap.size, 1, none⟩ = some (.int .i64 no) ∧ w2.cell? ⟨W.heap.size, 2, none⟩ = some (.int .i64 k) ∧ w2.cell? ⟨W.heap.size, 3, none⟩ = some (.slice ao n c) ∧
    w2.cell? ⟨W.heap.size + 1, 0, none⟩ = some (.int .i64 f) ∧ w2.cell? ⟨W.heap.size + 1, 1, none⟩ = some (.int .i64 no) ∧ w2.cell? ⟨W.heap.size + 1, 2, none⟩ = some (.int .i64 k) ∧ w2.cell? ⟨W.heap.size + 1, 3, none⟩ = some (.slice ao n c) ∧
    w2.frozen? ⟨W.heap.size + 1, 3, none⟩ = false := by
  have hC : Chg (fun q => q = W.heap.size + 1 + 1) (((W.alloc (.cells #[.int .i64 f, .int .i64 no, .int .i64 k, .slice ao n c] 24)).alloc (.cells #[.int .i64 f, .int .i64 no, .int .i64 k, .slice ao n c] 24)).alloc (.cells #[] 2)) w2 := (Chg.refl _ _).grown hg (fun k e => .inl (by simp [Value.ownBlock] at e; omega))
  have e0 : ¬ W.heap.size = W.heap.size + 1 + 1 := by omega
  have e1 : ¬ W.heap.size + 1 = W.heap.size + 1 + 1 := by omega
  have fz : ((W.alloc (.cells #[.int .i64 f, .int .i64 no, .int .i64 k, .slice ao n c] 24)).alloc (.cells #[.int .i64 f, .int .i64 no, .int .i64 k, .slice ao n c] 24)).frozen? ⟨W.heap.size + 1, 3, none⟩ = false := by
    have := new_frozen (W.alloc (.cells #[.int .i64 f, .int .i64 no, .int .i64 k, .slice ao n c] 24)) #[.int .i64 f, .int .i64 no, .int .i64 k, .slice ao n c] 24 3
    rw [World.size_alloc] at this
    exact this
  exact ⟨hC, hC.cell (alloc_cell (alloc_cell (new_cell W _ _ rfl) _) _) e0, hC.cell (alloc_cell (alloc_cell (new_cell W _ _ rfl) _) _) e0, hC.cell (alloc_cell (alloc_cell (new_cell W _ _ rfl) _) _) e0, hC.cell (alloc_cell (alloc_cell (new_cell W _ _ rfl) _) _) e0,
    hC.cell (alloc_cell (new_cell1 W _ _ _ rfl) _) e1, hC.cell (alloc_cell (new_cell1 W _ _ _ rfl) _) e1, hC.cell (alloc_cell (new_cell1 W _ _ _ rfl) _) e1, hC.cell (alloc_cell (new_cell1 W _ _ _ rfl) _) e1,
    hC.frozen (alloc_cell (new_cell1 W _ _ _ rfl) _) (alloc_frozen (new_cell1 W _ _ _ rfl) fz _) e1⟩
set_option maxRecDepth 100000 in
set_option maxHeartbeats 4000000 in
theorem writes_main (f no k s F : Int) (ao : Option Addr) (n c : Nat) (l : List Int) (W : World) (h1 : ¬ (1500 : Int) < n) (hS : Sl W (.slice ao n c) (l.map I)) (hln : l.length = n) (L : List UInt8) (E : Int)
    (q1 : ∀ w' v, Sl w' v (l.map I) → Calls Try.prog 9 #[.agg #[.int .i64 f, .int .i64 no, .int .i64 k, v], .int .i64 s] w' (GaveBE w' L E))
    (q2 : ∀ w' v, Sl w' v (l.map I) → Calls Try.prog 10 #[.agg #[.int .i64 f, .int .i64 no, .int .i64 k, v], .int .i64 s] w' (GaveBE w' L E))
    (q3 : ∀ w' v, Sl w' v (l.map I) → Calls Try.prog 11 #[.agg #[.int .i64 f, .int .i64 no, .int .i64 k, v], .int .i64 s] w' (GaveI w' E))
    (q4 : ∀ w, Calls Try.prog 12 #[.int .i64 s] w (fun e w' => e = .returned (.int .i64 F) ∧ w' = w))
    (q5 : ∀ w, Calls Try.prog 13 #[.int .i64 s] w (fun e w' => e = .returned (.int .i64 F) ∧ w' = w))
    (q6 : ∀ w' u v, Sl w' u (l.map I) → Sl w' v (l.map I) → Calls Try.prog 14 #[.agg #[.int .i64 f, .int .i64 no, .int .i64 k, u], .agg #[.int .i64 f, .int .i64 no, .int .i64 k, v]] w' (GaveBo w' true)) :
    Calls Try.prog 3 #[.agg #[.int .i64 f, .int .i64 no, .int .i64 k, .slice ao n c], .int .i64 s] W (True_ W) := by
  obtain ⟨i0, hi, hz0, hz1, hz2⟩ := info_parts info_i64
  have HS := Lib.hid hS
  have HN := Lib.hid hln
  have hn5 : n ≤ 1500 := by omega
  clear hS hln
  have hX1 : Chg (fun _ => False) W (((W.alloc (.cells #[.int .i64 f, .int .i64 no, .int .i64 k, .slice ao n c] 24)).alloc (.cells #[.int .i64 f, .int .i64 no, .int .i64 k, .slice ao n c] 24)).alloc (.cells #[] 2)) := (((Chg.refl _ W).alloc _).alloc _).alloc _
  have hown0 := World.ownsRow_lit (base := W.heap.size + 2) (e := 2) (size := 1) ((W.alloc (.cells #[.int .i64 f, .int .i64 no, .int .i64 k, .slice ao n c] 24)).alloc (.cells #[.int .i64 f, .int .i64 no, .int .i64 k, .slice ao n c] 24)) #[] 0 (by rw [World.size_alloc, World.size_alloc]; exact Nat.le_refl _) (Nat.zero_le _) rfl
  rw [World.size_alloc, World.size_alloc] at hown0
  have hsr := (HS.out.fr hX1).src
  have hz1' : W.heap.size + 2 ≤ (((W.alloc (.cells #[.int .i64 f, .int .i64 no, .int .i64 k, .slice ao n c] 24)).alloc (.cells #[.int .i64 f, .int .i64 no, .int .i64 k, .slice ao n c] 24)).alloc (.cells #[] 2)).heap.size := by rw [World.size_alloc, World.size_alloc, World.size_alloc]; omega
  have hb1 : 0 + n ≤ maxLen := by unfold maxLen; omega
  have hb2 : (0 + n) * 8 ≤ 140737488355328 := by omega
  have hnl : (l.map I).length = n * 1 := by rw [List.length_map, HN.out, Nat.mul_one]
  have hone : ∀ u ∈ l.map I, u.oneCell' = true := by intro u hu; obtain ⟨x, _, rfl⟩ := List.mem_map.1 hu; rfl
  go_enter Try.func3, Try.ntmps3
  go_wp2_with (refine wpList_append_own_any rfl (.tmp 15) (.tmp 17) 22 rfl (W.heap.size + 2) 2 i0 (.int .i64 0) 1 8 und_i64s hi hz0 hz1 hz2 rfl (by decide) (.slice (some ⟨W.heap.size + 2, 0, none⟩) 0 0) 0 [] rfl hown0 ao n c (l.map I) rfl hnl hsr hone hb1 hb2 hz1' ?_; intro v2 w2 hown2 hg2 _ _; obtain ⟨hCw, t0, t1, t2, t3, x0, x1, x2, x3, fx⟩ := writes_cells hg2; have hCw2 : Chg (fun _ => False) W w2 := hX1.grown hg2 (fun k e => .inr (by simp [Value.ownBlock] at e; omega)); obtain ⟨a2, L2, c2, rfl, hL2⟩ := owns_name hown2; have hs2 := Sl.of_owns hown2; rw [List.nil_append] at hs2)
  have hC3 : Chg (fun _ => False) W (w2.setCell ⟨W.heap.size + 1, 3, none⟩ (.slice a2 L2 c2)) := hCw2.setCell (p := ⟨W.heap.size + 1, 3, none⟩) (.inr (by show W.heap.size ≤ W.heap.size + 1; omega)) _
  have hs3 : Sl (w2.setCell ⟨W.heap.size + 1, 3, none⟩ (.slice a2 L2 c2)) (.slice a2 L2 c2) (l.map I) := hs2.chg ((Chg.refl (fun q => q = W.heap.size + 1) w2).setCell (p := ⟨W.heap.size + 1, 3, none⟩) (.inl rfl) _) (fun q e e' => by have := (hown2.lt q e).1; omega)
  replace x3 : (w2.setCell ⟨W.heap.size + 1, 3, none⟩ (.slice a2 L2 c2)).cell? ⟨W.heap.size + 1, 3, none⟩ = some (.slice a2 L2 c2) := World.cell?_setCell_same' _ _ _ (by rw [x3]; rfl)
  replace t0 : (w2.setCell ⟨W.heap.size + 1, 3, none⟩ (.slice a2 L2 c2)).cell? ⟨W.heap.size, 0, none⟩ = some (.int .i64 f) := (World.cell?_setCell_other _ _ _ _ (by simp)).trans t0
  replace t1 : (w2.setCell ⟨W.heap.size + 1, 3, none⟩ (.slice a2 L2 c2)).cell? ⟨W.heap.size, 1, none⟩ = some (.int .i64 no) := (World.cell?_setCell_other _ _ _ _ (by simp)).trans t1
  replace t2 : (w2.setCell ⟨W.heap.size + 1, 3, none⟩ (.slice a2 L2 c2)).cell? ⟨W.heap.size, 2, none⟩ = some (.int .i64 k) := (World.cell?_setCell_other _ _ _ _ (by simp)).trans t2
  replace t3 : (w2.setCell ⟨W.heap.size + 1, 3, none⟩ (.slice a2 L2 c2)).cell? ⟨W.heap.size, 3, none⟩ = some (.slice ao n c) := (World.cell?_setCell_other _ _ _ _ (by simp)).trans t3
  replace x0 : (w2.setCell ⟨W.heap.size + 1, 3, none⟩ (.slice a2 L2 c2)).cell? ⟨W.heap.size + 1, 0, none⟩ = some (.int .i64 f) := (World.cell?_setCell_other _ _ _ _ (by simp)).trans x0
  replace x1 : (w2.setCell ⟨W.heap.size + 1, 3, none⟩ (.slice a2 L2 c2)).cell? ⟨W.heap.size + 1, 1, none⟩ = some (.int .i64 no) := (World.cell?_setCell_other _ _ _ _ (by simp)).trans x1
  replace x2 : (w2.setCell ⟨W.heap.size + 1, 3, none⟩ (.slice a2 L2 c2)).cell? ⟨W.heap.size + 1, 2, none⟩ = some (.int .i64 k) := (World.cell?_setCell_other _ _ _ _ (by simp)).trans x2
  have hSt := HS.out.fr hC3
  generalize w2.setCell ⟨W.heap.size + 1, 3, none⟩ (.slice a2 L2 c2) = w3 at *
  clear hown2 hg2 hs2 hown0 hsr hz1' hb1 hb2 hnl hone hX1 hCw hCw2 fx
  refine (q1 _ _ hs3).mono ?_
  clear q1
  rintro e w4 ⟨v4, rfl, ho4, hX⟩
  replace t0 := hX.cell t0 id
  replace t1 := hX.cell t1 id
  replace t2 := hX.cell t2 id
  replace t3 := hX.cell t3 id
  replace x0 := hX.cell x0 id
  replace x1 := hX.cell x1 id
  replace x2 := hX.cell x2 id
  replace x3 := hX.cell x3 id
  replace hs3 := hs3.fr hX
  replace hSt := hSt.fr hX
  replace hC3 := hC3.tr hX
  have hv4 := Sl.of_owns ho4
  clear ho4 hX
  go_wp2_with fail
  refine (q2 _ _ hSt).mono ?_
  clear q2
  rintro e w5 ⟨v5, rfl, ho5, hX⟩
  replace t0 := hX.cell t0 id
  replace t1 := hX.cell t1 id
  replace t2 := hX.cell t2 id
  replace t3 := hX.cell t3 id
  replace x0 := hX.cell x0 id
  replace x1 := hX.cell x1 id
  replace x2 := hX.cell x2 id
  replace x3 := hX.cell x3 id
  replace hs3 := hs3.fr hX
  replace hSt := hSt.fr hX
  replace hC3 := hC3.tr hX
  replace hv4 := hv4.fr hX
  have hv5 := Sl.of_owns ho5
  clear ho5 hX
  obtain ⟨SA, hA1, hA2, hA3⟩ := str_name L
  have cv4 : (convert 25 9 v4).run Try.prog w5 = .ok (.string SA) w5 := by rw [← hA1]; exact run_convert_sl (P := Try.prog) 25 9 5 Try.underlying25 Try.underlying5 Try.underlying9 hv4
  have cv5 : (convert 25 9 v5).run Try.prog w5 = .ok (.string SA) w5 := by rw [← hA1]; exact run_convert_sl (P := Try.prog) 25 9 5 Try.underlying25 Try.underlying5 Try.underlying9 hv5
  clear hv4 hv5 hA1 hA2 hA3
  go_wp2_with fail
  refine (q3 _ _ hs3).mono ?_
  clear q3
  rintro e w6 ⟨rfl, hX⟩
  replace t0 := hX.cell t0 id
  replace t1 := hX.cell t1 id
  replace t2 := hX.cell t2 id
  replace t3 := hX.cell t3 id
  replace x0 := hX.cell x0 id
  replace x1 := hX.cell x1 id
  replace x2 := hX.cell x2 id
  replace x3 := hX.cell x3 id
  replace hs3 := hs3.fr hX
  replace hSt := hSt.fr hX
  replace hC3 := hC3.tr hX
  clear hX cv4 cv5
  go_wp2_with fail
  refine (q4 _).mono ?_
  clear q4
  rintro e w7 ⟨rfl, rfl⟩
  go_wp2_with fail
  refine (q5 _).mono ?_
  clear q5
  rintro e w8 ⟨rfl, rfl⟩
  go_wp2_with fail
  refine (q6 _ _ _ hs3 hSt).mono ?_
  clear q6
  rintro e w9 ⟨rfl, hX⟩
  go_wp2
  go_ret
  exact ⟨rfl, hC3.tr hX⟩
theorem tileWrites_walk (f n k : Int) (v : Value) (l : List Int) (s : Int) (W : World) (h1 : TileOk W f n k v l) (_ : (Lit.int .i64 s).wf = true) :
    Calls Try.prog 3 #[tileV f n k v, .int .i64 s] W (True_ W) := by
  obtain ⟨_, _, _, hS, _⟩ := h1
  obtain ⟨ao, c, rfl, _⟩ := hS.form
  rw [List.length_map] at hS
  unfold tileV
  rw [List.length_map]
  by_cases b1 : (1500 : Int) < l.length
  · exact writes_big f n k s ao _ c W b1
  exact writes_main f n k s _ ao _ c l W b1 hS rfl _ _ (fun w' v h => tencode_any f n k s v l w' h (by omega)) (fun w' v h => r5enc_any f n k s v l w' h (by omega)) (fun w' v h => check_any f n k s v l w' h (by omega)) (tfit_any s) (r5fit_any s)
    (fun w' u v h h' => by
      have := same_any f n k f n k u v l l w' h h' (by omega)
      rw [show sameB f n k l f n k l = true by unfold sameB; simp] at this
      exact this)
end Go.Proofs.Ytccpmbonipfmpaa
