/- TileApart's walk. -/
import Derived.Test.YtccpmbonipfmpaaTlI
import Derived.Deep.RegionHeld3
namespace Go.Proofs.Ytccpmbonipfmpaa
open Go.RowKit

theorem new_cell1 (w : World) (o : Obj) (c : Array Value) (t : TypeId) {i : Nat} {v : Value} (h : c[i]? = some v) : ((w.alloc o).alloc (.cells c t)).cell? ⟨w.heap.size + 1, i, none⟩ = some v := by
  have := new_cell (w.alloc o) c t h
  rw [World.size_alloc] at this
  exact this
set_option maxRecDepth 100000 in
theorem apart_big1 (f1 n1 k1 f2 n2 k2 s : Int) (a1 a2 : Option Addr) (m1 d1 m2 d2 : Nat) (W : World) (h1 : (1500 : Int) < m1) : Calls Try.prog 4 #[.agg #[.int .i64 f1, .int .i64 n1, .int .i64 k1, .slice a1 m1 d1], .agg #[.int .i64 f2, .int .i64 n2, .int .i64 k2, .slice a2 m2 d2], .int .i64 s] W (True_ W) := by
  go_enter Try.func4, Try.ntmps4
  go_wp2_with fail
  refine (alive_any _).mono ?_
  rintro e w1 ⟨rfl, hC1⟩
  have t0 : w1.cell? ⟨W.heap.size, 0, none⟩ = some (.int .i64 f1) := hC1.cell (alloc_cell (new_cell W _ _ rfl) _) id
  have t1 : w1.cell? ⟨W.heap.size, 1, none⟩ = some (.int .i64 n1) := hC1.cell (alloc_cell (new_cell W _ _ rfl) _) id
  have t2 : w1.cell? ⟨W.heap.size, 2, none⟩ = some (.int .i64 k1) := hC1.cell (alloc_cell (new_cell W _ _ rfl) _) id
  have t3 : w1.cell? ⟨W.heap.size, 3, none⟩ = some (.slice a1 m1 d1) := hC1.cell (alloc_cell (new_cell W _ _ rfl) _) id
  have u0 : w1.cell? ⟨W.heap.size + 1, 0, none⟩ = some (.int .i64 f2) := hC1.cell (new_cell1 W _ _ _ rfl) id
  have u1 : w1.cell? ⟨W.heap.size + 1, 1, none⟩ = some (.int .i64 n2) := hC1.cell (new_cell1 W _ _ _ rfl) id
  have u2 : w1.cell? ⟨W.heap.size + 1, 2, none⟩ = some (.int .i64 k2) := hC1.cell (new_cell1 W _ _ _ rfl) id
  have u3 : w1.cell? ⟨W.heap.size + 1, 3, none⟩ = some (.slice a2 m2 d2) := hC1.cell (new_cell1 W _ _ _ rfl) id
  replace hC1 := (((Chg.refl _ W).alloc _).alloc _).tr hC1
  go_wp2
  go_ret
  exact ⟨rfl, hC1⟩
set_option maxRecDepth 100000 in
theorem apart_big2 (f1 n1 k1 f2 n2 k2 s : Int) (a1 a2 : Option Addr) (m1 d1 m2 d2 : Nat) (W : World) (h1 : ¬ (1500 : Int) < m1) (h2 : (1500 : Int) < m2) : Calls Try.prog 4 #[.agg #[.int .i64 f1, .int .i64 n1, .int .i64 k1, .slice a1 m1 d1], .agg #[.int .i64 f2, .int .i64 n2, .int .i64 k2, .slice a2 m2 d2], .int .i64 s] W (True_ W) := by
  go_enter Try.func4, Try.ntmps4
  go_wp2_with fail
  refine (alive_any _).mono ?_
  rintro e w1 ⟨rfl, hC1⟩
  have t0 : w1.cell? ⟨W.heap.size, 0, none⟩ = some (.int .i64 f1) := hC1.cell (alloc_cell (new_cell W _ _ rfl) _) id
  have t1 : w1.cell? ⟨W.heap.size, 1, none⟩ = some (.int .i64 n1) := hC1.cell (alloc_cell (new_cell W _ _ rfl) _) id
  have t2 : w1.cell? ⟨W.heap.size, 2, none⟩ = some (.int .i64 k1) := hC1.cell (alloc_cell (new_cell W _ _ rfl) _) id
  have t3 : w1.cell? ⟨W.heap.size, 3, none⟩ = some (.slice a1 m1 d1) := hC1.cell (alloc_cell (new_cell W _ _ rfl) _) id
  have u0 : w1.cell? ⟨W.heap.size + 1, 0, none⟩ = some (.int .i64 f2) := hC1.cell (new_cell1 W _ _ _ rfl) id
  have u1 : w1.cell? ⟨W.heap.size + 1, 1, none⟩ = some (.int .i64 n2) := hC1.cell (new_cell1 W _ _ _ rfl) id
  have u2 : w1.cell? ⟨W.heap.size + 1, 2, none⟩ = some (.int .i64 k2) := hC1.cell (new_cell1 W _ _ _ rfl) id
  have u3 : w1.cell? ⟨W.heap.size + 1, 3, none⟩ = some (.slice a2 m2 d2) := hC1.cell (new_cell1 W _ _ _ rfl) id
  replace hC1 := (((Chg.refl _ W).alloc _).alloc _).tr hC1
  go_wp2
  go_ret
  exact ⟨rfl, hC1⟩
set_option maxRecDepth 100000 in
theorem apart_err1 (f1 n1 k1 f2 n2 k2 s : Int) (a1 a2 : Option Addr) (m1 d1 m2 d2 : Nat) (W : World) (h1 : ¬ (1500 : Int) < m1) (h2 : ¬ (1500 : Int) < m2) (L1 : List UInt8) (L2 : List UInt8) (E2 : Int) (e1 : ∀ w', Chg (fun _ => False) W w' → Calls Try.prog 9 #[.agg #[.int .i64 f1, .int .i64 n1, .int .i64 k1, .slice a1 m1 d1], .int .i64 s] w' (GaveBE w' L1 50)) (e2 : ∀ w', Chg (fun _ => False) W w' → Calls Try.prog 9 #[.agg #[.int .i64 f2, .int .i64 n2, .int .i64 k2, .slice a2 m2 d2], .int .i64 s] w' (GaveBE w' L2 E2)) : Calls Try.prog 4 #[.agg #[.int .i64 f1, .int .i64 n1, .int .i64 k1, .slice a1 m1 d1], .agg #[.int .i64 f2, .int .i64 n2, .int .i64 k2, .slice a2 m2 d2], .int .i64 s] W (True_ W) := by
  go_enter Try.func4, Try.ntmps4
  go_wp2_with fail
  refine (alive_any _).mono ?_
  rintro e w1 ⟨rfl, hC1⟩
  have t0 : w1.cell? ⟨W.heap.size, 0, none⟩ = some (.int .i64 f1) := hC1.cell (alloc_cell (new_cell W _ _ rfl) _) id
  have t1 : w1.cell? ⟨W.heap.size, 1, none⟩ = some (.int .i64 n1) := hC1.cell (alloc_cell (new_cell W _ _ rfl) _) id
  have t2 : w1.cell? ⟨W.heap.size, 2, none⟩ = some (.int .i64 k1) := hC1.cell (alloc_cell (new_cell W _ _ rfl) _) id
  have t3 : w1.cell? ⟨W.heap.size, 3, none⟩ = some (.slice a1 m1 d1) := hC1.cell (alloc_cell (new_cell W _ _ rfl) _) id
  have u0 : w1.cell? ⟨W.heap.size + 1, 0, none⟩ = some (.int .i64 f2) := hC1.cell (new_cell1 W _ _ _ rfl) id
  have u1 : w1.cell? ⟨W.heap.size + 1, 1, none⟩ = some (.int .i64 n2) := hC1.cell (new_cell1 W _ _ _ rfl) id
  have u2 : w1.cell? ⟨W.heap.size + 1, 2, none⟩ = some (.int .i64 k2) := hC1.cell (new_cell1 W _ _ _ rfl) id
  have u3 : w1.cell? ⟨W.heap.size + 1, 3, none⟩ = some (.slice a2 m2 d2) := hC1.cell (new_cell1 W _ _ _ rfl) id
  replace hC1 := (((Chg.refl _ W).alloc _).alloc _).tr hC1
  go_wp2_with fail
  refine (e1 _ hC1).mono ?_
  clear e1
  rintro e w2 ⟨v2, rfl, ho2, hC2⟩
  replace t0 := hC2.cell t0 id
  replace t1 := hC2.cell t1 id
  replace t2 := hC2.cell t2 id
  replace t3 := hC2.cell t3 id
  replace u0 := hC2.cell u0 id
  replace u1 := hC2.cell u1 id
  replace u2 := hC2.cell u2 id
  replace u3 := hC2.cell u3 id
  go_wp2_with fail
  refine (e2 _ (hC1.tr hC2)).mono ?_
  clear e2
  rintro e w3 ⟨v3, rfl, ho3, hC3⟩
  go_wp2
  go_ret
  exact ⟨rfl, (hC1.tr hC2).tr hC3⟩
set_option maxRecDepth 100000 in
theorem apart_err2 (f1 n1 k1 f2 n2 k2 s : Int) (a1 a2 : Option Addr) (m1 d1 m2 d2 : Nat) (W : World) (h1 : ¬ (1500 : Int) < m1) (h2 : ¬ (1500 : Int) < m2) (L1 : List UInt8) (L2 : List UInt8) (e1 : ∀ w', Chg (fun _ => False) W w' → Calls Try.prog 9 #[.agg #[.int .i64 f1, .int .i64 n1, .int .i64 k1, .slice a1 m1 d1], .int .i64 s] w' (GaveBE w' L1 0)) (e2 : ∀ w', Chg (fun _ => False) W w' → Calls Try.prog 9 #[.agg #[.int .i64 f2, .int .i64 n2, .int .i64 k2, .slice a2 m2 d2], .int .i64 s] w' (GaveBE w' L2 50)) : Calls Try.prog 4 #[.agg #[.int .i64 f1, .int .i64 n1, .int .i64 k1, .slice a1 m1 d1], .agg #[.int .i64 f2, .int .i64 n2, .int .i64 k2, .slice a2 m2 d2], .int .i64 s] W (True_ W) := by
  go_enter Try.func4, Try.ntmps4
  go_wp2_with fail
  refine (alive_any _).mono ?_
  rintro e w1 ⟨rfl, hC1⟩
  have t0 : w1.cell? ⟨W.heap.size, 0, none⟩ = some (.int .i64 f1) := hC1.cell (alloc_cell (new_cell W _ _ rfl) _) id
  have t1 : w1.cell? ⟨W.heap.size, 1, none⟩ = some (.int .i64 n1) := hC1.cell (alloc_cell (new_cell W _ _ rfl) _) id
  have t2 : w1.cell? ⟨W.heap.size, 2, none⟩ = some (.int .i64 k1) := hC1.cell (alloc_cell (new_cell W _ _ rfl) _) id
  have t3 : w1.cell? ⟨W.heap.size, 3, none⟩ = some (.slice a1 m1 d1) := hC1.cell (alloc_cell (new_cell W _ _ rfl) _) id
  have u0 : w1.cell? ⟨W.heap.size + 1, 0, none⟩ = some (.int .i64 f2) := hC1.cell (new_cell1 W _ _ _ rfl) id
  have u1 : w1.cell? ⟨W.heap.size + 1, 1, none⟩ = some (.int .i64 n2) := hC1.cell (new_cell1 W _ _ _ rfl) id
  have u2 : w1.cell? ⟨W.heap.size + 1, 2, none⟩ = some (.int .i64 k2) := hC1.cell (new_cell1 W _ _ _ rfl) id
  have u3 : w1.cell? ⟨W.heap.size + 1, 3, none⟩ = some (.slice a2 m2 d2) := hC1.cell (new_cell1 W _ _ _ rfl) id
  replace hC1 := (((Chg.refl _ W).alloc _).alloc _).tr hC1
  go_wp2_with fail
  refine (e1 _ hC1).mono ?_
  clear e1
  rintro e w2 ⟨v2, rfl, ho2, hC2⟩
  replace t0 := hC2.cell t0 id
  replace t1 := hC2.cell t1 id
  replace t2 := hC2.cell t2 id
  replace t3 := hC2.cell t3 id
  replace u0 := hC2.cell u0 id
  replace u1 := hC2.cell u1 id
  replace u2 := hC2.cell u2 id
  replace u3 := hC2.cell u3 id
  go_wp2_with fail
  refine (e2 _ (hC1.tr hC2)).mono ?_
  clear e2
  rintro e w3 ⟨v3, rfl, ho3, hC3⟩
  go_wp2
  go_ret
  exact ⟨rfl, (hC1.tr hC2).tr hC3⟩
set_option maxRecDepth 100000 in
set_option maxHeartbeats 4000000 in
theorem apart_main (f1 n1 k1 f2 n2 k2 s : Int) (a1 a2 : Option Addr) (m1 d1 m2 d2 : Nat) (W : World) (h1 : ¬ (1500 : Int) < m1) (h2 : ¬ (1500 : Int) < m2) (L1 L2 L3 : List UInt8) (sb fb : Bool) (e1 : ∀ w', Chg (fun _ => False) W w' → Calls Try.prog 9 #[.agg #[.int .i64 f1, .int .i64 n1, .int .i64 k1, .slice a1 m1 d1], .int .i64 s] w' (GaveBE w' L1 0)) (e2 : ∀ w', Chg (fun _ => False) W w' → Calls Try.prog 9 #[.agg #[.int .i64 f2, .int .i64 n2, .int .i64 k2, .slice a2 m2 d2], .int .i64 s] w' (GaveBE w' L2 0)) (e3 : ∀ w', Chg (fun _ => False) W w' → Calls Try.prog 9 #[.agg #[.int .i64 f2, .int .i64 n1, .int .i64 k1, .slice a1 m1 d1], .int .i64 s] w' (GaveBE w' L3 0)) (hsame : ∀ w', Chg (fun _ => False) W w' → Calls Try.prog 14 #[.agg #[.int .i64 f1, .int .i64 n1, .int .i64 k1, .slice a1 m1 d1], .agg #[.int .i64 f2, .int .i64 n2, .int .i64 k2, .slice a2 m2 d2]] w' (GaveBo w' sb)) (hsb : decide (L1 = L2) = sb) (hfb : decide (L1 = L3) = fb) (hff : (f1 == f2) = fb) : Calls Try.prog 4 #[.agg #[.int .i64 f1, .int .i64 n1, .int .i64 k1, .slice a1 m1 d1], .agg #[.int .i64 f2, .int .i64 n2, .int .i64 k2, .slice a2 m2 d2], .int .i64 s] W (True_ W) := by
  go_enter Try.func4, Try.ntmps4
  go_wp2_with fail
  refine (alive_any _).mono ?_
  rintro e w1 ⟨rfl, hC1⟩
  have t0 : w1.cell? ⟨W.heap.size, 0, none⟩ = some (.int .i64 f1) := hC1.cell (alloc_cell (new_cell W _ _ rfl) _) id
  have t1 : w1.cell? ⟨W.heap.size, 1, none⟩ = some (.int .i64 n1) := hC1.cell (alloc_cell (new_cell W _ _ rfl) _) id
  have t2 : w1.cell? ⟨W.heap.size, 2, none⟩ = some (.int .i64 k1) := hC1.cell (alloc_cell (new_cell W _ _ rfl) _) id
  have t3 : w1.cell? ⟨W.heap.size, 3, none⟩ = some (.slice a1 m1 d1) := hC1.cell (alloc_cell (new_cell W _ _ rfl) _) id
  have u0 : w1.cell? ⟨W.heap.size + 1, 0, none⟩ = some (.int .i64 f2) := hC1.cell (new_cell1 W _ _ _ rfl) id
  have u1 : w1.cell? ⟨W.heap.size + 1, 1, none⟩ = some (.int .i64 n2) := hC1.cell (new_cell1 W _ _ _ rfl) id
  have u2 : w1.cell? ⟨W.heap.size + 1, 2, none⟩ = some (.int .i64 k2) := hC1.cell (new_cell1 W _ _ _ rfl) id
  have u3 : w1.cell? ⟨W.heap.size + 1, 3, none⟩ = some (.slice a2 m2 d2) := hC1.cell (new_cell1 W _ _ _ rfl) id
  replace hC1 := (((Chg.refl _ W).alloc _).alloc _).tr hC1
  go_wp2_with fail
  refine (e1 _ hC1).mono ?_
  clear e1
  rintro e w2 ⟨v2, rfl, ho2, hC2⟩
  replace t0 := hC2.cell t0 id
  replace t1 := hC2.cell t1 id
  replace t2 := hC2.cell t2 id
  replace t3 := hC2.cell t3 id
  replace u0 := hC2.cell u0 id
  replace u1 := hC2.cell u1 id
  replace u2 := hC2.cell u2 id
  replace u3 := hC2.cell u3 id
  go_wp2_with fail
  refine (e2 _ (hC1.tr hC2)).mono ?_
  clear e2
  rintro e w3 ⟨v3, rfl, ho3, hC3⟩
  replace t0 := hC3.cell t0 id
  replace t1 := hC3.cell t1 id
  replace t2 := hC3.cell t2 id
  replace t3 := hC3.cell t3 id
  replace u0 := hC3.cell u0 id
  replace u1 := hC3.cell u1 id
  replace u2 := hC3.cell u2 id
  replace u3 := hC3.cell u3 id
  have u0a := alloc_cell u0 (.cells #[.int .i64 f1, .int .i64 n1, .int .i64 k1, .slice a1 m1 d1] 24)
  go_wp2_with fail
  have hX0 := (hC1.tr hC2).tr hC3
  refine (e3 _ (hX0.alloc _)).mono ?_
  clear e3
  rintro e w4 ⟨v4, rfl, ho4, hC4⟩
  have hX := ((Chg.refl (fun _ => False) w3).alloc (.cells #[.int .i64 f2, .int .i64 n1, .int .i64 k1, .slice a1 m1 d1] 24)).tr hC4
  replace t0 := hX.cell t0 id
  replace t1 := hX.cell t1 id
  replace t2 := hX.cell t2 id
  replace t3 := hX.cell t3 id
  replace u0 := hX.cell u0 id
  replace u1 := hX.cell u1 id
  replace u2 := hX.cell u2 id
  replace u3 := hX.cell u3 id
  have hW4 := (hX0.tr hX).drew
  have hW4' := hX0.tr hX
  obtain ⟨SA, hA1, hA2, hA3⟩ := str_name L1
  obtain ⟨SB, hB1, hB2, hB3⟩ := str_name L2
  obtain ⟨SC, hC1', hC2', hC3'⟩ := str_name L3
  have s2 := ((Sl.of_owns ho2).fr (hC3.tr hX)).fr ((Chg.refl _ w4).drew)
  have s3 := ((Sl.of_owns ho3).fr hX).fr ((Chg.refl _ w4).drew)
  have s4 := (Sl.of_owns ho4).fr ((Chg.refl _ w4).drew)
  have hab : (SA.toList == SB.toList) = sb := by rw [hA2, hB2, ← hsb]; by_cases h : L1 = L2 <;> simp [h]
  have hac : (SA.toList == SC.toList) = fb := by rw [hA2, hC2', ← hfb]; by_cases h : L1 = L3 <;> simp [h]
  have hP : ∀ w', Chg (fun _ => False) w4.drew w' → (Chg (fun _ => False) w4.drew w' ∧ (convert 25 9 v2).run Try.prog w' = .ok (.string SA) w' ∧ (convert 25 9 v3).run Try.prog w' = .ok (.string SB) w' ∧ (convert 25 9 v4).run Try.prog w' = .ok (.string SC) w' ∧
      w'.cell? ⟨W.heap.size, 0, none⟩ = some (.int .i64 f1) ∧ w'.cell? ⟨W.heap.size, 1, none⟩ = some (.int .i64 n1) ∧ w'.cell? ⟨W.heap.size, 2, none⟩ = some (.int .i64 k1) ∧ w'.cell? ⟨W.heap.size, 3, none⟩ = some (.slice a1 m1 d1) ∧
      w'.cell? ⟨W.heap.size + 1, 0, none⟩ = some (.int .i64 f2) ∧ w'.cell? ⟨W.heap.size + 1, 1, none⟩ = some (.int .i64 n2) ∧ w'.cell? ⟨W.heap.size + 1, 2, none⟩ = some (.int .i64 k2) ∧ w'.cell? ⟨W.heap.size + 1, 3, none⟩ = some (.slice a2 m2 d2)) := fun w' h =>
    ⟨h, by rw [← hA1]; exact run_convert_sl (P := Try.prog) 25 9 5 Try.underlying25 Try.underlying5 Try.underlying9 (s2.fr h),
      by rw [← hB1]; exact run_convert_sl (P := Try.prog) 25 9 5 Try.underlying25 Try.underlying5 Try.underlying9 (s3.fr h),
      by rw [← hC1']; exact run_convert_sl (P := Try.prog) 25 9 5 Try.underlying25 Try.underlying5 Try.underlying9 (s4.fr h),
      h.cell (t0 : w4.drew.cell? _ = _) id, h.cell (t1 : w4.drew.cell? _ = _) id, h.cell (t2 : w4.drew.cell? _ = _) id, h.cell (t3 : w4.drew.cell? _ = _) id, h.cell (u0 : w4.drew.cell? _ = _) id, h.cell (u1 : w4.drew.cell? _ = _) id, h.cell (u2 : w4.drew.cell? _ = _) id, h.cell (u3 : w4.drew.cell? _ = _) id⟩
  have HPP := Lib.hid hP
  clear hP s2 s3 s4 ho2 ho3 ho4 hA1 hA2 hA3 hB1 hB2 hB3 hC1' hC2' hC3' hsb hfb hC1 hC2 hC3 hC4 hX hX0 u0a
  go_wp2_with fail
  go_region_held3 (fun w' => Chg (fun _ => False) w4.drew w' ∧ (convert 25 9 v2).run Try.prog w' = .ok (.string SA) w' ∧ (convert 25 9 v3).run Try.prog w' = .ok (.string SB) w' ∧ (convert 25 9 v4).run Try.prog w' = .ok (.string SC) w' ∧
      w'.cell? ⟨W.heap.size, 0, none⟩ = some (.int .i64 f1) ∧ w'.cell? ⟨W.heap.size, 1, none⟩ = some (.int .i64 n1) ∧ w'.cell? ⟨W.heap.size, 2, none⟩ = some (.int .i64 k1) ∧ w'.cell? ⟨W.heap.size, 3, none⟩ = some (.slice a1 m1 d1) ∧
      w'.cell? ⟨W.heap.size + 1, 0, none⟩ = some (.int .i64 f2) ∧ w'.cell? ⟨W.heap.size + 1, 1, none⟩ = some (.int .i64 n2) ∧ w'.cell? ⟨W.heap.size + 1, 2, none⟩ = some (.int .i64 k2) ∧ w'.cell? ⟨W.heap.size + 1, 3, none⟩ = some (.slice a2 m2 d2)) (first | exact HPP.out _ (Chg.refl _ _) | exact HPP.out _ hC5)
    (first | (go_at_call 14; (with_reducible refine (hsame _ hW4).mono ?_); rintro e w5 ⟨rfl, hC5⟩))
  all_goals
    go_wp2
    go_ret
    exact ⟨by simp, hW4.tr hC5⟩
end Go.Proofs.Ytccpmbonipfmpaa
