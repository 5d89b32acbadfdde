/- TileBack's walk. -/
import Derived.Test.YtccpmbonipfmpaaTlY
import Derived.Test.YtccpmbonipfmpaaTlK
namespace Go.Proofs.Ytccpmbonipfmpaa
open Go.RowKit

set_option maxRecDepth 100000 in
theorem back_big1 (f n k s : Int) (a1 : Option Addr) (m1 d1 : Nat) (ab : Option Addr) (mb db : Nat) (W : World) (h1 : (1500 : Int) < m1) : Calls Try.prog 7 #[.agg #[.int .i64 f, .int .i64 n, .int .i64 k, .slice a1 m1 d1], .int .i64 s, .slice ab mb db] W (True_ W) := by
  go_enter Try.func7, Try.ntmps7
  go_wp2_with fail
  refine (alive_any _).mono ?_
  rintro e w1 ⟨rfl, hC1⟩
  have t0 : w1.cell? ⟨W.heap.size, 0, none⟩ = some (.int .i64 f) := hC1.cell (new_cell W _ _ rfl) id
  have t1 : w1.cell? ⟨W.heap.size, 1, none⟩ = some (.int .i64 n) := hC1.cell (new_cell W _ _ rfl) id
  have t2 : w1.cell? ⟨W.heap.size, 2, none⟩ = some (.int .i64 k) := hC1.cell (new_cell W _ _ rfl) id
  have t3 : w1.cell? ⟨W.heap.size, 3, none⟩ = some (.slice a1 m1 d1) := hC1.cell (new_cell W _ _ rfl) id
  replace hC1 := ((Chg.refl _ W).alloc _).tr hC1
  go_wp2
  go_ret
  exact ⟨rfl, hC1⟩
set_option maxRecDepth 100000 in
theorem back_big2 (f n k s : Int) (a1 : Option Addr) (m1 d1 : Nat) (ab : Option Addr) (mb db : Nat) (W : World) (h1 : ¬ (1500 : Int) < m1) (h2 : (9000 : Int) < mb) : Calls Try.prog 7 #[.agg #[.int .i64 f, .int .i64 n, .int .i64 k, .slice a1 m1 d1], .int .i64 s, .slice ab mb db] W (True_ W) := by
  go_enter Try.func7, Try.ntmps7
  go_wp2_with fail
  refine (alive_any _).mono ?_
  rintro e w1 ⟨rfl, hC1⟩
  have t0 : w1.cell? ⟨W.heap.size, 0, none⟩ = some (.int .i64 f) := hC1.cell (new_cell W _ _ rfl) id
  have t1 : w1.cell? ⟨W.heap.size, 1, none⟩ = some (.int .i64 n) := hC1.cell (new_cell W _ _ rfl) id
  have t2 : w1.cell? ⟨W.heap.size, 2, none⟩ = some (.int .i64 k) := hC1.cell (new_cell W _ _ rfl) id
  have t3 : w1.cell? ⟨W.heap.size, 3, none⟩ = some (.slice a1 m1 d1) := hC1.cell (new_cell W _ _ rfl) id
  replace hC1 := ((Chg.refl _ W).alloc _).tr hC1
  go_wp2
  go_ret
  exact ⟨rfl, hC1⟩
set_option maxRecDepth 100000 in
set_option maxHeartbeats 1000000 in
theorem back_yy (f n k s : Int) (a1 : Option Addr) (m1 d1 : Nat) (ab : Option Addr) (mb db : Nat) (W : World) (h1 : ¬ (1500 : Int) < m1) (h2 : ¬ (9000 : Int) < mb) (l : List Int) (L : List UInt8) (u1 : IntKind.i64.wrap (s * 128) = s * 128) (hL : (L.length : Int) = s * 128) (hS1 : Sl W (.slice a1 m1 d1) (l.map I)) (e1 : ∀ w', Chg (fun _ => False) W w' → Calls Try.prog 9 #[.agg #[.int .i64 f, .int .i64 n, .int .i64 k, .slice a1 m1 d1], .int .i64 s] w' (GaveBE w' L 0)) (e2 : ∀ w' v, Sl w' v (L.map B) → Calls Try.prog 16 #[v] w' (GaveT w' f n k l 0)) (e3 : ∀ w' u v, Sl w' u (l.map I) → Sl w' v (l.map I) → Calls Try.prog 14 #[.agg #[.int .i64 f, .int .i64 n, .int .i64 k, u], .agg #[.int .i64 f, .int .i64 n, .int .i64 k, v]] w' (GaveBo w' true)) (e4 : ∀ w' v, Sl w' v (L.map B) → Calls Try.prog 18 #[v] w' (GaveBo w' true)) (F NN K : Int) (LL : List Int) (xs : List UInt8) (hSb : Sl W (.slice ab mb db) (xs.map B)) (d1' : ∀ w', Chg (fun _ => False) W w' → Calls Try.prog 16 #[.slice ab mb db] w' (GaveT w' F NN K LL 0)) (z6 : ∀ u w', Sl w' u (LL.map I) → Calls Try.prog 9 #[.agg #[.int .i64 F, .int .i64 NN, .int .i64 K, u], .int .i64 ((mb : Int) / 128)] w' (GaveBE w' xs 0)) (z7 : ∀ w', Chg (fun _ => False) W w' → Calls Try.prog 18 #[.slice ab mb db] w' (GaveBo w' true)) : Calls Try.prog 7 #[.agg #[.int .i64 f, .int .i64 n, .int .i64 k, .slice a1 m1 d1], .int .i64 s, .slice ab mb db] W (True_ W) := by
  go_enter Try.func7, Try.ntmps7
  go_wp2_with fail
  refine (alive_any _).mono ?_
  rintro e w1 ⟨rfl, hC1⟩
  have t0 : w1.cell? ⟨W.heap.size, 0, none⟩ = some (.int .i64 f) := hC1.cell (new_cell W _ _ rfl) id
  have t1 : w1.cell? ⟨W.heap.size, 1, none⟩ = some (.int .i64 n) := hC1.cell (new_cell W _ _ rfl) id
  have t2 : w1.cell? ⟨W.heap.size, 2, none⟩ = some (.int .i64 k) := hC1.cell (new_cell W _ _ rfl) id
  have t3 : w1.cell? ⟨W.heap.size, 3, none⟩ = some (.slice a1 m1 d1) := hC1.cell (new_cell W _ _ rfl) id
  replace hC1 := ((Chg.refl _ W).alloc _).tr hC1
  go_wp2_with fail
  refine (e1 _ hC1).mono ?_
  clear e1
  rintro e w2 ⟨v2, rfl, ho2, hC2⟩
  replace t0 := hC2.cell t0 id
  replace t1 := hC2.cell t1 id
  replace t2 := hC2.cell t2 id
  replace t3 := hC2.cell t3 id
  have hs2 := Sl.of_owns ho2
  obtain ⟨ao2, q2, c2, rfl, hq2⟩ := owns_name ho2
  go_wp2_with fail
  refine (e2 _ _ hs2).mono ?_
  clear e2
  rintro e w3 ⟨v3, rfl, ho3, hC3⟩
  obtain ⟨ao3, q3, c3, rfl, _⟩ := owns_name ho3
  have hC3' := hC3.alloc (.cells #[.int .i64 f, .int .i64 n, .int .i64 k, .slice ao3 q3 c3] 24)
  replace t0 := hC3'.cell t0 id
  replace t1 := hC3'.cell t1 id
  replace t2 := hC3'.cell t2 id
  replace t3 := hC3'.cell t3 id
  have y0 : (w3.alloc (.cells #[.int .i64 f, .int .i64 n, .int .i64 k, .slice ao3 q3 c3] 24)).cell? ⟨w3.heap.size, 0, none⟩ = some (.int .i64 f) := new_cell w3 _ _ rfl
  have y1 : (w3.alloc (.cells #[.int .i64 f, .int .i64 n, .int .i64 k, .slice ao3 q3 c3] 24)).cell? ⟨w3.heap.size, 1, none⟩ = some (.int .i64 n) := new_cell w3 _ _ rfl
  have y2 : (w3.alloc (.cells #[.int .i64 f, .int .i64 n, .int .i64 k, .slice ao3 q3 c3] 24)).cell? ⟨w3.heap.size, 2, none⟩ = some (.int .i64 k) := new_cell w3 _ _ rfl
  have y3 : (w3.alloc (.cells #[.int .i64 f, .int .i64 n, .int .i64 k, .slice ao3 q3 c3] 24)).cell? ⟨w3.heap.size, 3, none⟩ = some (.slice ao3 q3 c3) := new_cell w3 _ _ rfl
  have hX3 := (hC1.tr hC2).tr hC3'
  have hsm := e3 _ _ _ ((Sl.of_owns ho3).fr ((Chg.refl (fun _ => False) w3).alloc (.cells #[.int .i64 f, .int .i64 n, .int .i64 k, .slice ao3 q3 c3] 24))) (hS1.fr hX3)
  go_wp2_with fail
  refine hsm.mono ?_
  clear hsm e3
  rintro e w4 ⟨rfl, hC4⟩
  have hsn := e4 _ _ ((hs2.fr hC3').fr hC4)
  go_wp2_with fail
  refine hsn.mono ?_
  clear hsn e4
  rintro e w5 ⟨rfl, hC5⟩
  have hX5 := (hX3.tr hC4).tr hC5
  have hq2 : (q2 : Int) = s * 128 := by rw [← hL, hq2.out]
  clear t0 t1 t2 t3 y0 y1 y2 y3 hs2 ho2 ho3 hC2 hC3 hC3' hC4 hC5 hL hX3 hC1
  have p1 := d1' _ hX5
  go_wp2_with fail
  refine p1.mono ?_
  clear p1 d1'
  rintro e w6 ⟨v6, rfl, ho6, hC6⟩
  have z6' := z6 v6
  obtain ⟨ao6, q6, c6, rfl, _⟩ := owns_name ho6
  have hC6' := hC6.alloc (.cells #[.int .i64 F, .int .i64 NN, .int .i64 K, .slice ao6 q6 c6] 24)
  have x0 : (w6.alloc (.cells #[.int .i64 F, .int .i64 NN, .int .i64 K, .slice ao6 q6 c6] 24)).cell? ⟨w6.heap.size, 0, none⟩ = some (.int .i64 F) := new_cell w6 _ _ rfl
  have x1 : (w6.alloc (.cells #[.int .i64 F, .int .i64 NN, .int .i64 K, .slice ao6 q6 c6] 24)).cell? ⟨w6.heap.size, 1, none⟩ = some (.int .i64 NN) := new_cell w6 _ _ rfl
  have x2 : (w6.alloc (.cells #[.int .i64 F, .int .i64 NN, .int .i64 K, .slice ao6 q6 c6] 24)).cell? ⟨w6.heap.size, 2, none⟩ = some (.int .i64 K) := new_cell w6 _ _ rfl
  have x3 : (w6.alloc (.cells #[.int .i64 F, .int .i64 NN, .int .i64 K, .slice ao6 q6 c6] 24)).cell? ⟨w6.heap.size, 3, none⟩ = some (.slice ao6 q6 c6) := new_cell w6 _ _ rfl
  have hX6 := hX5.tr hC6'
  have hsz := z6' _ ((Sl.of_owns ho6).fr ((Chg.refl (fun _ => False) w6).alloc (.cells #[.int .i64 F, .int .i64 NN, .int .i64 K, .slice ao6 q6 c6] 24)))
  clear z6 z6'
  go_wp2_with fail
  refine hsz.mono ?_
  clear hsz
  rintro e w7 ⟨v7, rfl, ho7, hC7⟩
  have hX7 := hX6.tr hC7
  obtain ⟨SB, hB1, hB2, hB3⟩ := str_name xs
  have hk1 := conv_sl (Sl.of_owns ho7)
  have hk2 := conv_sl (hSb.fr hX7)
  rw [hB1] at hk1 hk2
  have hso := z7 _ hX7
  clear z7 hB1 hB2 hB3
  obtain ⟨ao7, q7, c7, rfl, _⟩ := owns_name ho7
  go_wp2_with fail
  refine hso.mono ?_
  clear hso
  rintro e w8 ⟨rfl, hC8⟩
  go_wp2
  go_ret
  exact ⟨rfl, hX7.tr hC8⟩
set_option maxRecDepth 100000 in
set_option maxHeartbeats 1000000 in
theorem back_yn (f n k s : Int) (a1 : Option Addr) (m1 d1 : Nat) (ab : Option Addr) (mb db : Nat) (W : World) (h1 : ¬ (1500 : Int) < m1) (h2 : ¬ (9000 : Int) < mb) (l : List Int) (L : List UInt8) (u1 : IntKind.i64.wrap (s * 128) = s * 128) (hL : (L.length : Int) = s * 128) (hS1 : Sl W (.slice a1 m1 d1) (l.map I)) (e1 : ∀ w', Chg (fun _ => False) W w' → Calls Try.prog 9 #[.agg #[.int .i64 f, .int .i64 n, .int .i64 k, .slice a1 m1 d1], .int .i64 s] w' (GaveBE w' L 0)) (e2 : ∀ w' v, Sl w' v (L.map B) → Calls Try.prog 16 #[v] w' (GaveT w' f n k l 0)) (e3 : ∀ w' u v, Sl w' u (l.map I) → Sl w' v (l.map I) → Calls Try.prog 14 #[.agg #[.int .i64 f, .int .i64 n, .int .i64 k, u], .agg #[.int .i64 f, .int .i64 n, .int .i64 k, v]] w' (GaveBo w' true)) (e4 : ∀ w' v, Sl w' v (L.map B) → Calls Try.prog 18 #[v] w' (GaveBo w' true)) (d1' : ∀ w', Chg (fun _ => False) W w' → Calls Try.prog 16 #[.slice ab mb db] w' (GaveT w' 0 0 0 [] 50)) (z6 : ∀ w' u, Sl w' u (([] : List Int).map I) → Calls Try.prog 14 #[.agg #[.int .i64 0, .int .i64 0, .int .i64 0, u], .agg #[.int .i64 0, .int .i64 0, .int .i64 0, .slice none 0 0]] w' (GaveBo w' true)) : Calls Try.prog 7 #[.agg #[.int .i64 f, .int .i64 n, .int .i64 k, .slice a1 m1 d1], .int .i64 s, .slice ab mb db] W (True_ W) := by
  go_enter Try.func7, Try.ntmps7
  go_wp2_with fail
  refine (alive_any _).mono ?_
  rintro e w1 ⟨rfl, hC1⟩
  have t0 : w1.cell? ⟨W.heap.size, 0, none⟩ = some (.int .i64 f) := hC1.cell (new_cell W _ _ rfl) id
  have t1 : w1.cell? ⟨W.heap.size, 1, none⟩ = some (.int .i64 n) := hC1.cell (new_cell W _ _ rfl) id
  have t2 : w1.cell? ⟨W.heap.size, 2, none⟩ = some (.int .i64 k) := hC1.cell (new_cell W _ _ rfl) id
  have t3 : w1.cell? ⟨W.heap.size, 3, none⟩ = some (.slice a1 m1 d1) := hC1.cell (new_cell W _ _ rfl) id
  replace hC1 := ((Chg.refl _ W).alloc _).tr hC1
  go_wp2_with fail
  refine (e1 _ hC1).mono ?_
  clear e1
  rintro e w2 ⟨v2, rfl, ho2, hC2⟩
  replace t0 := hC2.cell t0 id
  replace t1 := hC2.cell t1 id
  replace t2 := hC2.cell t2 id
  replace t3 := hC2.cell t3 id
  have hs2 := Sl.of_owns ho2
  obtain ⟨ao2, q2, c2, rfl, hq2⟩ := owns_name ho2
  go_wp2_with fail
  refine (e2 _ _ hs2).mono ?_
  clear e2
  rintro e w3 ⟨v3, rfl, ho3, hC3⟩
  obtain ⟨ao3, q3, c3, rfl, _⟩ := owns_name ho3
  have hC3' := hC3.alloc (.cells #[.int .i64 f, .int .i64 n, .int .i64 k, .slice ao3 q3 c3] 24)
  replace t0 := hC3'.cell t0 id
  replace t1 := hC3'.cell t1 id
  replace t2 := hC3'.cell t2 id
  replace t3 := hC3'.cell t3 id
  have y0 : (w3.alloc (.cells #[.int .i64 f, .int .i64 n, .int .i64 k, .slice ao3 q3 c3] 24)).cell? ⟨w3.heap.size, 0, none⟩ = some (.int .i64 f) := new_cell w3 _ _ rfl
  have y1 : (w3.alloc (.cells #[.int .i64 f, .int .i64 n, .int .i64 k, .slice ao3 q3 c3] 24)).cell? ⟨w3.heap.size, 1, none⟩ = some (.int .i64 n) := new_cell w3 _ _ rfl
  have y2 : (w3.alloc (.cells #[.int .i64 f, .int .i64 n, .int .i64 k, .slice ao3 q3 c3] 24)).cell? ⟨w3.heap.size, 2, none⟩ = some (.int .i64 k) := new_cell w3 _ _ rfl
  have y3 : (w3.alloc (.cells #[.int .i64 f, .int .i64 n, .int .i64 k, .slice ao3 q3 c3] 24)).cell? ⟨w3.heap.size, 3, none⟩ = some (.slice ao3 q3 c3) := new_cell w3 _ _ rfl
  have hX3 := (hC1.tr hC2).tr hC3'
  have hsm := e3 _ _ _ ((Sl.of_owns ho3).fr ((Chg.refl (fun _ => False) w3).alloc (.cells #[.int .i64 f, .int .i64 n, .int .i64 k, .slice ao3 q3 c3] 24))) (hS1.fr hX3)
  go_wp2_with fail
  refine hsm.mono ?_
  clear hsm e3
  rintro e w4 ⟨rfl, hC4⟩
  have hsn := e4 _ _ ((hs2.fr hC3').fr hC4)
  go_wp2_with fail
  refine hsn.mono ?_
  clear hsn e4
  rintro e w5 ⟨rfl, hC5⟩
  have hX5 := (hX3.tr hC4).tr hC5
  have hq2 : (q2 : Int) = s * 128 := by rw [← hL, hq2.out]
  clear t0 t1 t2 t3 y0 y1 y2 y3 hs2 ho2 ho3 hC2 hC3 hC3' hC4 hC5 hL hX3 hC1
  have p1 := d1' _ hX5
  go_wp2_with fail
  refine p1.mono ?_
  clear p1 d1'
  rintro e w6 ⟨v6, rfl, ho6, hC6⟩
  obtain ⟨ao6, q6, c6, rfl, _⟩ := owns_name ho6
  have hC6' := hC6.alloc (.cells #[.int .i64 0, .int .i64 0, .int .i64 0, .slice ao6 q6 c6] 24)
  have x0 : (w6.alloc (.cells #[.int .i64 0, .int .i64 0, .int .i64 0, .slice ao6 q6 c6] 24)).cell? ⟨w6.heap.size, 0, none⟩ = some (.int .i64 0) := new_cell w6 _ _ rfl
  have x1 : (w6.alloc (.cells #[.int .i64 0, .int .i64 0, .int .i64 0, .slice ao6 q6 c6] 24)).cell? ⟨w6.heap.size, 1, none⟩ = some (.int .i64 0) := new_cell w6 _ _ rfl
  have x2 : (w6.alloc (.cells #[.int .i64 0, .int .i64 0, .int .i64 0, .slice ao6 q6 c6] 24)).cell? ⟨w6.heap.size, 2, none⟩ = some (.int .i64 0) := new_cell w6 _ _ rfl
  have x3 : (w6.alloc (.cells #[.int .i64 0, .int .i64 0, .int .i64 0, .slice ao6 q6 c6] 24)).cell? ⟨w6.heap.size, 3, none⟩ = some (.slice ao6 q6 c6) := new_cell w6 _ _ rfl
  have hX6 := hX5.tr hC6'
  have hsz := ((Sl.of_owns ho6).fr ((Chg.refl (fun _ => False) w6).alloc (.cells #[.int .i64 0, .int .i64 0, .int .i64 0, .slice ao6 q6 c6] 24)))
  go_wp2_with fail
  refine (z6 _ _ hsz).mono ?_
  clear z6 hsz
  rintro e w7 ⟨rfl, hC7⟩
  go_wp2
  go_ret
  exact ⟨rfl, hX6.tr hC7⟩
set_option maxRecDepth 100000 in
set_option maxHeartbeats 1000000 in
theorem back_ny (f n k s : Int) (a1 : Option Addr) (m1 d1 : Nat) (ab : Option Addr) (mb db : Nat) (W : World) (h1 : ¬ (1500 : Int) < m1) (h2 : ¬ (9000 : Int) < mb) (L : List UInt8) (e1 : ∀ w', Chg (fun _ => False) W w' → Calls Try.prog 9 #[.agg #[.int .i64 f, .int .i64 n, .int .i64 k, .slice a1 m1 d1], .int .i64 s] w' (GaveBE w' L 50)) (F NN K : Int) (LL : List Int) (xs : List UInt8) (hSb : Sl W (.slice ab mb db) (xs.map B)) (d1' : ∀ w', Chg (fun _ => False) W w' → Calls Try.prog 16 #[.slice ab mb db] w' (GaveT w' F NN K LL 0)) (z6 : ∀ u w', Sl w' u (LL.map I) → Calls Try.prog 9 #[.agg #[.int .i64 F, .int .i64 NN, .int .i64 K, u], .int .i64 ((mb : Int) / 128)] w' (GaveBE w' xs 0)) (z7 : ∀ w', Chg (fun _ => False) W w' → Calls Try.prog 18 #[.slice ab mb db] w' (GaveBo w' true)) : Calls Try.prog 7 #[.agg #[.int .i64 f, .int .i64 n, .int .i64 k, .slice a1 m1 d1], .int .i64 s, .slice ab mb db] W (True_ W) := by
  go_enter Try.func7, Try.ntmps7
  go_wp2_with fail
  refine (alive_any _).mono ?_
  rintro e w1 ⟨rfl, hC1⟩
  have t0 : w1.cell? ⟨W.heap.size, 0, none⟩ = some (.int .i64 f) := hC1.cell (new_cell W _ _ rfl) id
  have t1 : w1.cell? ⟨W.heap.size, 1, none⟩ = some (.int .i64 n) := hC1.cell (new_cell W _ _ rfl) id
  have t2 : w1.cell? ⟨W.heap.size, 2, none⟩ = some (.int .i64 k) := hC1.cell (new_cell W _ _ rfl) id
  have t3 : w1.cell? ⟨W.heap.size, 3, none⟩ = some (.slice a1 m1 d1) := hC1.cell (new_cell W _ _ rfl) id
  replace hC1 := ((Chg.refl _ W).alloc _).tr hC1
  go_wp2_with fail
  refine (e1 _ hC1).mono ?_
  clear e1
  rintro e w2 ⟨v2, rfl, ho2, hC2⟩
  have hX5 := hC1.tr hC2
  clear t0 t1 t2 t3 ho2 hC2 hC1
  have p1 := d1' _ hX5
  go_wp2_with fail
  refine p1.mono ?_
  clear p1 d1'
  rintro e w6 ⟨v6, rfl, ho6, hC6⟩
  have z6' := z6 v6
  obtain ⟨ao6, q6, c6, rfl, _⟩ := owns_name ho6
  have hC6' := hC6.alloc (.cells #[.int .i64 F, .int .i64 NN, .int .i64 K, .slice ao6 q6 c6] 24)
  have x0 : (w6.alloc (.cells #[.int .i64 F, .int .i64 NN, .int .i64 K, .slice ao6 q6 c6] 24)).cell? ⟨w6.heap.size, 0, none⟩ = some (.int .i64 F) := new_cell w6 _ _ rfl
  have x1 : (w6.alloc (.cells #[.int .i64 F, .int .i64 NN, .int .i64 K, .slice ao6 q6 c6] 24)).cell? ⟨w6.heap.size, 1, none⟩ = some (.int .i64 NN) := new_cell w6 _ _ rfl
  have x2 : (w6.alloc (.cells #[.int .i64 F, .int .i64 NN, .int .i64 K, .slice ao6 q6 c6] 24)).cell? ⟨w6.heap.size, 2, none⟩ = some (.int .i64 K) := new_cell w6 _ _ rfl
  have x3 : (w6.alloc (.cells #[.int .i64 F, .int .i64 NN, .int .i64 K, .slice ao6 q6 c6] 24)).cell? ⟨w6.heap.size, 3, none⟩ = some (.slice ao6 q6 c6) := new_cell w6 _ _ rfl
  have hX6 := hX5.tr hC6'
  have hsz := z6' _ ((Sl.of_owns ho6).fr ((Chg.refl (fun _ => False) w6).alloc (.cells #[.int .i64 F, .int .i64 NN, .int .i64 K, .slice ao6 q6 c6] 24)))
  clear z6 z6'
  go_wp2_with fail
  refine hsz.mono ?_
  clear hsz
  rintro e w7 ⟨v7, rfl, ho7, hC7⟩
  have hX7 := hX6.tr hC7
  obtain ⟨SB, hB1, hB2, hB3⟩ := str_name xs
  have hk1 := conv_sl (Sl.of_owns ho7)
  have hk2 := conv_sl (hSb.fr hX7)
  rw [hB1] at hk1 hk2
  have hso := z7 _ hX7
  clear z7 hB1 hB2 hB3
  obtain ⟨ao7, q7, c7, rfl, _⟩ := owns_name ho7
  go_wp2_with fail
  refine hso.mono ?_
  clear hso
  rintro e w8 ⟨rfl, hC8⟩
  go_wp2
  go_ret
  exact ⟨rfl, hX7.tr hC8⟩
set_option maxRecDepth 100000 in
set_option maxHeartbeats 1000000 in
theorem back_nn (f n k s : Int) (a1 : Option Addr) (m1 d1 : Nat) (ab : Option Addr) (mb db : Nat) (W : World) (h1 : ¬ (1500 : Int) < m1) (h2 : ¬ (9000 : Int) < mb) (L : List UInt8) (e1 : ∀ w', Chg (fun _ => False) W w' → Calls Try.prog 9 #[.agg #[.int .i64 f, .int .i64 n, .int .i64 k, .slice a1 m1 d1], .int .i64 s] w' (GaveBE w' L 50)) (d1' : ∀ w', Chg (fun _ => False) W w' → Calls Try.prog 16 #[.slice ab mb db] w' (GaveT w' 0 0 0 [] 50)) (z6 : ∀ w' u, Sl w' u (([] : List Int).map I) → Calls Try.prog 14 #[.agg #[.int .i64 0, .int .i64 0, .int .i64 0, u], .agg #[.int .i64 0, .int .i64 0, .int .i64 0, .slice none 0 0]] w' (GaveBo w' true)) : Calls Try.prog 7 #[.agg #[.int .i64 f, .int .i64 n, .int .i64 k, .slice a1 m1 d1], .int .i64 s, .slice ab mb db] W (True_ W) := by
  go_enter Try.func7, Try.ntmps7
  go_wp2_with fail
  refine (alive_any _).mono ?_
  rintro e w1 ⟨rfl, hC1⟩
  have t0 : w1.cell? ⟨W.heap.size, 0, none⟩ = some (.int .i64 f) := hC1.cell (new_cell W _ _ rfl) id
  have t1 : w1.cell? ⟨W.heap.size, 1, none⟩ = some (.int .i64 n) := hC1.cell (new_cell W _ _ rfl) id
  have t2 : w1.cell? ⟨W.heap.size, 2, none⟩ = some (.int .i64 k) := hC1.cell (new_cell W _ _ rfl) id
  have t3 : w1.cell? ⟨W.heap.size, 3, none⟩ = some (.slice a1 m1 d1) := hC1.cell (new_cell W _ _ rfl) id
  replace hC1 := ((Chg.refl _ W).alloc _).tr hC1
  go_wp2_with fail
  refine (e1 _ hC1).mono ?_
  clear e1
  rintro e w2 ⟨v2, rfl, ho2, hC2⟩
  have hX5 := hC1.tr hC2
  clear t0 t1 t2 t3 ho2 hC2 hC1
  have p1 := d1' _ hX5
  go_wp2_with fail
  refine p1.mono ?_
  clear p1 d1'
  rintro e w6 ⟨v6, rfl, ho6, hC6⟩
  obtain ⟨ao6, q6, c6, rfl, _⟩ := owns_name ho6
  have hC6' := hC6.alloc (.cells #[.int .i64 0, .int .i64 0, .int .i64 0, .slice ao6 q6 c6] 24)
  have x0 : (w6.alloc (.cells #[.int .i64 0, .int .i64 0, .int .i64 0, .slice ao6 q6 c6] 24)).cell? ⟨w6.heap.size, 0, none⟩ = some (.int .i64 0) := new_cell w6 _ _ rfl
  have x1 : (w6.alloc (.cells #[.int .i64 0, .int .i64 0, .int .i64 0, .slice ao6 q6 c6] 24)).cell? ⟨w6.heap.size, 1, none⟩ = some (.int .i64 0) := new_cell w6 _ _ rfl
  have x2 : (w6.alloc (.cells #[.int .i64 0, .int .i64 0, .int .i64 0, .slice ao6 q6 c6] 24)).cell? ⟨w6.heap.size, 2, none⟩ = some (.int .i64 0) := new_cell w6 _ _ rfl
  have x3 : (w6.alloc (.cells #[.int .i64 0, .int .i64 0, .int .i64 0, .slice ao6 q6 c6] 24)).cell? ⟨w6.heap.size, 3, none⟩ = some (.slice ao6 q6 c6) := new_cell w6 _ _ rfl
  have hX6 := hX5.tr hC6'
  have hsz := ((Sl.of_owns ho6).fr ((Chg.refl (fun _ => False) w6).alloc (.cells #[.int .i64 0, .int .i64 0, .int .i64 0, .slice ao6 q6 c6] 24)))
  go_wp2_with fail
  refine (z6 _ _ hsz).mono ?_
  clear z6 hsz
  rintro e w7 ⟨rfl, hC7⟩
  go_wp2
  go_ret
  exact ⟨rfl, hX6.tr hC7⟩
theorem tileBack_walk (f n k : Int) (v : Value) (l : List Int) (s : Int) (vb : Value) (xs : List UInt8) (W : World) (h1 : TileOk W f n k v l) (_ : (Lit.int .i64 s).wf = true) (hSb : Sl W vb (xs.map B)) : Calls Try.prog 7 #[tileV f n k v, .int .i64 s, vb] W (True_ W) := by
  obtain ⟨i1, i2, i3, hS1, hx1⟩ := h1
  obtain ⟨a1, d1, rfl, _⟩ := hS1.form
  obtain ⟨ab, db, rfl, _⟩ := hSb.form
  rw [List.length_map] at hS1 hSb
  unfold tileV
  rw [List.length_map, List.length_map]
  by_cases b1 : (1500 : Int) < l.length
  · exact back_big1 f n k s a1 _ d1 ab _ db W b1
  by_cases b2 : (9000 : Int) < xs.length
  · exact back_big2 f n k s a1 _ d1 ab _ db W b1 b2
  have e1 := fun w' (hC : Chg (fun _ => False) W w') => tencode_any f n k s _ l w' (hS1.fr hC) (by omega)
  have q1 := fun w' (hC : Chg (fun _ => False) W w') => decode_any _ xs w' (hSb.fr hC) (by omega)
  have q2 := fun w' (hC : Chg (fun _ => False) W w') => sound_any _ xs w' (hSb.fr hC) (by omega)
  have z6 : ∀ w' u, Sl w' u (([] : List Int).map I) → Calls Try.prog 14 #[.agg #[.int .i64 0, .int .i64 0, .int .i64 0, u], .agg #[.int .i64 0, .int .i64 0, .int .i64 0, .slice none 0 0]] w' (GaveBo w' true) := fun w' u hu =>
    same_any 0 0 0 0 0 0 u _ [] [] w' hu (Sl.of_owns (World.ownsRow_nil w' 0 2 1)) (by decide)
  unfold checkE at e1
  unfold tileV at e1
  have K1 : ∀ c : checkB f n k l s = true, (∀ w' v, Sl w' v ((tileL f n k l s).map B) → Calls Try.prog 16 #[v] w' (GaveT w' f n k l 0)) ∧ (∀ w' u v, Sl w' u (l.map I) → Sl w' v (l.map I) → Calls Try.prog 14 #[.agg #[.int .i64 f, .int .i64 n, .int .i64 k, u], .agg #[.int .i64 f, .int .i64 n, .int .i64 k, v]] w' (GaveBo w' true)) ∧ (∀ w' v, Sl w' v ((tileL f n k l s).map B) → Calls Try.prog 18 #[v] w' (GaveBo w' true)) ∧ ((tileL f n k l s).length : Int) = s * 128 ∧ IntKind.i64.wrap (s * 128) = s * 128 := by
    intro c
    obtain ⟨⟨s1, s2⟩, _⟩ := check_bounds c
    obtain ⟨p0, _⟩ := parse_tile f n k s l i1 hx1 c _ rfl
    obtain ⟨o0, o1, o2, o3, o4, o5⟩ := decOk_tile f n k s l i1 hx1 c _ rfl
    have hsd := (decOk_parts o0).1
    generalize tileL f n k l s = L at *
    refine ⟨fun w' v hv => ?_, fun w' u v hu hv => ?_, fun w' v hv => ?_, by omega, IntWalk.i64_in _ (by omega)⟩
    · have := decode_any v L w' hv (by omega)
      rw [o1, o2, o3, o4, o5] at this
      exact this
    · have := same_any f n k f n k u v l l w' hu hv (by omega)
      rw [show sameB f n k l f n k l = true by unfold sameB; simp] at this
      exact this
    · have := sound_any v L w' hv (by omega)
      rw [hsd] at this
      exact this
  have K2 : ∀ c : decOk xs = true, (∀ w', Chg (fun _ => False) W w' → Calls Try.prog 16 #[.slice ab xs.length db] w' (GaveT w' (pF xs) (pNo xs : Nat) (pK xs : Nat) (elemsP xs (pM xs)) 0)) ∧ (∀ u w', Sl w' u ((elemsP xs (pM xs)).map I) → Calls Try.prog 9 #[.agg #[.int .i64 (pF xs), .int .i64 (pNo xs : Nat), .int .i64 (pK xs : Nat), u], .int .i64 ((xs.length : Int) / 128)] w' (GaveBE w' xs 0)) ∧ (∀ w', Chg (fun _ => False) W w' → Calls Try.prog 18 #[.slice ab xs.length db] w' (GaveBo w' true)) := by
    intro c
    obtain ⟨a, b, c', d, e⟩ := dec_true xs c
    obtain ⟨hsd, hti, hch⟩ := decOk_parts c
    rw [a, b, c', d, e] at q1
    rw [hsd] at q2
    refine ⟨q1, fun u w' hu => ?_, q2⟩
    have := tencode_any (pF xs) (pNo xs : Nat) (pK xs : Nat) ((xs.length / 128 : Nat) : Int) u _ w' hu (by unfold elemsP; rw [List.length_map, List.length_range]; omega)
    unfold checkE at this
    rw [hch, hti, if_pos rfl, show ((xs.length / 128 : Nat) : Int) = (xs.length : Int) / 128 by omega] at this
    exact this
  have K3 : decOk xs = false → (∀ w', Chg (fun _ => False) W w' → Calls Try.prog 16 #[.slice ab xs.length db] w' (GaveT w' 0 0 0 [] 50)) := by
    intro c
    obtain ⟨a, b, c', d, e⟩ := dec_false xs c
    rw [a, b, c', d, e] at q1
    exact q1
  cases c1 : checkB f n k l s with
  | false =>
    rw [c1, if_neg (by decide)] at e1
    cases c2 : decOk xs with
    | false => exact back_nn f n k s a1 _ d1 ab _ db W b1 b2 _ e1 (K3 c2) z6
    | true =>
      obtain ⟨r1, r2, r3⟩ := K2 c2
      exact back_ny f n k s a1 _ d1 ab _ db W b1 b2 _ e1 _ _ _ _ xs hSb r1 r2 r3
  | true =>
    rw [c1, if_pos rfl] at e1
    obtain ⟨g1, g2, g3, g4, g5⟩ := K1 c1
    cases c2 : decOk xs with
    | false => exact back_yn f n k s a1 _ d1 ab _ db W b1 b2 l _ g5 g4 hS1 e1 g1 g2 g3 (K3 c2) z6
    | true =>
      obtain ⟨r1, r2, r3⟩ := K2 c2
      exact back_yy f n k s a1 _ d1 ab _ db W b1 b2 l _ g5 g4 hS1 e1 g1 g2 g3 _ _ _ _ xs hSb r1 r2 r3
end Go.Proofs.Ytccpmbonipfmpaa
