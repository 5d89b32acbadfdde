/- TileNames' walk. -/
import Derived.Test.YtccpmbonipfmpaaTlY
import Derived.Test.YtccpmbonipfmpaaTlK
namespace Go.Proofs.Ytccpmbonipfmpaa
open Go.RowKit

def z14 : Array Value := (List.replicate 14 (I 0)).toArray
theorem made14 : madeCells #[Value.int .i64 0] 14 = z14 := by kernel_rfl
def z13 : Array Value := (List.replicate 13 (I 0)).toArray
theorem made13 : madeCells #[Value.int .i64 0] 13 = z13 := by kernel_rfl
def b128 : Array Value := ((List.replicate 128 (0 : UInt8)).map B).toArray
theorem made128 : madeCells #[Value.int .u8 0] 128 = b128 := by kernel_rfl
theorem encno (f n k s : Int) (v : Value) (l : List Int) (w : World) (hS : Sl w v (l.map I)) (hl : l.length ≤ 140737488355328) (hc : checkB f n k l s = false) : Calls Try.prog 9 #[.agg #[.int .i64 f, .int .i64 n, .int .i64 k, v], .int .i64 s] w (GaveBE w [] 50) := by
  have := tencode_any f n k s v l w hS hl
  unfold checkE tileL tileV at this
  rw [hc, if_neg (by decide), if_neg (by decide)] at this
  exact this
theorem chkno (f n k s : Int) (v : Value) (l : List Int) (w : World) (hS : Sl w v (l.map I)) (hl : l.length ≤ 140737488355328) (hc : checkB f n k l s = false) : Calls Try.prog 11 #[.agg #[.int .i64 f, .int .i64 n, .int .i64 k, v], .int .i64 s] w (GaveI w 50) := by
  have := check_any f n k s v l w hS hl
  unfold checkE at this
  rw [hc, if_neg (by decide)] at this
  exact this
theorem sl_at3 (w : World) (o o' : Obj) (l : List Value) (t : TypeId) (h : l.length ≤ maxLen) : Sl (((w.alloc o).alloc o').alloc (.cells l.toArray t)) (.slice (some ⟨w.heap.size + 1 + 1, 0, none⟩) l.length l.length) l := by
  have := Sl.lit ((w.alloc o).alloc o') l t h
  rw [World.size_alloc, World.size_alloc] at this
  exact this
theorem sl_at2 (w : World) (o : Obj) (l : List Value) (t : TypeId) (h : l.length ≤ maxLen) : Sl ((w.alloc o).alloc (.cells l.toArray t)) (.slice (some ⟨w.heap.size + 1, 0, none⟩) l.length l.length) l := by
  have := Sl.lit (w.alloc o) l t h
  rw [World.size_alloc] at this
  exact this
set_option maxRecDepth 100000 in
set_option maxHeartbeats 8000000 in
theorem names_loop : True := trivial
theorem dec_bad (v : Value) (xs : List UInt8) (w : World) (hS : Sl w v (xs.map B)) (hl : xs.length + 100 ≤ 140737488355328) (h : soundB xs = false) : Calls Try.prog 16 #[v] w (GaveT w 0 0 0 [] 50) := by
  have := decode_any v xs w hS hl
  have hk : decOk xs = false := by unfold decOk; rw [h]; rfl
  obtain ⟨a, b, c, d, e⟩ := dec_false xs hk
  rw [a, b, c, d, e] at this
  exact this
theorem snd_bad (v : Value) (xs : List UInt8) (w : World) (hS : Sl w v (xs.map B)) (hl : xs.length + 100 ≤ 140737488355328) (h : soundB xs = false) : Calls Try.prog 18 #[v] w (GaveBo w false) := by
  have := sound_any v xs w hS hl
  rw [h] at this
  exact this
theorem zeros_bad : soundB (List.replicate 128 (0 : UInt8)) = false := by decide +kernel
theorem odd_bad (xs : List UInt8) (h : ¬ xs.length % 128 = 0) : soundB xs = false := by
  unfold soundB
  rw [decide_eq_false h, Bool.false_and, Bool.and_false]
theorem full_data : ∃ L : List UInt8, L.length = 128 ∧ (∀ w v, Sl w v ((List.replicate 13 (0 : Int)).map I) → Calls Try.prog 9 #[.agg #[.int .i64 9223372036854775807, .int .i64 4095, .int .i64 1, v], .int .i64 1] w (GaveBE w L 0)) ∧
    (∀ w v, Sl w v (L.map B) → Calls Try.prog 16 #[v] w (GaveT w 9223372036854775807 4095 1 (List.replicate 13 0) 0)) ∧ soundB (L ++ [0]) = false := by
  have hc : checkB 9223372036854775807 4095 1 (List.replicate 13 0) 1 = true := by decide +kernel
  have hx : ∀ x ∈ List.replicate 13 (0 : Int), In64 x := fun x hx => by rw [List.eq_of_mem_replicate hx]; unfold In64; decide
  obtain ⟨L, hL⟩ : ∃ L, tileL 9223372036854775807 4095 1 (List.replicate 13 0) 1 = L := ⟨_, rfl⟩
  obtain ⟨p0, _⟩ := parse_tile _ _ _ _ _ (by unfold In64; decide) hx hc L hL
  obtain ⟨_, o1, o2, o3, o4, o5⟩ := decOk_tile _ _ _ _ _ (by unfold In64; decide) hx hc L hL
  have hl : L.length = 128 := p0
  refine ⟨L, hl, fun w v hv => ?_, fun w v hv => ?_, odd_bad _ (by rw [List.length_append, hl]; decide)⟩
  · have := tencode_any 9223372036854775807 4095 1 1 v (List.replicate 13 0) w hv (by decide)
    unfold checkE tileV at this
    rw [hL, hc, if_pos rfl] at this
    exact this
  · have := decode_any v L w hv (by rw [hl]; decide)
    rw [o1, o2, o3, o4, o5] at this
    exact this
theorem none_data : ∃ M : List UInt8, M.length = 256 ∧ (∀ w, Calls Try.prog 9 #[.agg #[.int .i64 1, .int .i64 0, .int .i64 2, .slice none 0 0], .int .i64 2] w (GaveBE w M 0)) := by
  have hc : checkB 1 0 2 [] 2 = true := by decide +kernel
  obtain ⟨L, hL⟩ : ∃ L, tileL 1 0 2 [] 2 = L := ⟨_, rfl⟩
  obtain ⟨p0, _⟩ := parse_tile _ _ _ _ _ (by unfold In64; decide) (fun x hx => by cases hx) hc L hL
  refine ⟨L, p0, fun w => ?_⟩
  have := tencode_any 1 0 2 2 (.slice none 0 0) [] w (Sl.of_owns (World.ownsRow_nil w 0 2 1)) (by decide)
  unfold checkE tileV at this
  rw [hL, hc, if_pos rfl] at this
  exact this
set_option maxRecDepth 100000 in
set_option maxHeartbeats 8000000 in
set_option maxRecDepth 100000 in
set_option maxHeartbeats 8000000 in
theorem tileNames_walk (W : World) : Calls Try.prog 6 #[] W (True_ W) := by
  have hmk : ∀ w, (Instr.makeSlice 22 (.int .i64 14) (.int .i64 14)).run Try.prog w = .ok (.slice (some ⟨w.heap.size, 0, none⟩) 14 14) (w.alloc (.cells z14 2)) := by
    rw [← made14]; exact run_make_row' (P := Try.prog) 22 2 (.int .i64 0) 8 und_i64s info_i64 rfl .i64 .i64 14 (by decide) (by decide)
  have hmk3 : ∀ w, (Instr.makeSlice 22 (.int .i64 13) (.int .i64 13)).run Try.prog w = .ok (.slice (some ⟨w.heap.size, 0, none⟩) 13 13) (w.alloc (.cells z13 2)) := by
    rw [← made13]; exact run_make_row' (P := Try.prog) 22 2 (.int .i64 0) 8 und_i64s info_i64 rfl .i64 .i64 13 (by decide) (by decide)
  have hmk8 : ∀ w, (Instr.makeSlice 25 (.int .i64 128) (.int .i64 128)).run Try.prog w = .ok (.slice (some ⟨w.heap.size, 0, none⟩) 128 128) (w.alloc (.cells b128 5)) := by
    rw [← made128]; exact run_make_row' (P := Try.prog) 25 5 (.int .u8 0) 1 Try.underlying25 Try.info5 rfl .i64 .i64 128 (by decide) (by decide)
  have dz : ∀ w v, Sl w v ((List.replicate 128 (0 : UInt8)).map B) → Calls Try.prog 16 #[v] w (GaveT w 0 0 0 [] 50) := fun w v hv => dec_bad v _ w hv (by rw [List.length_replicate]; decide) zeros_bad
  have dn : ∀ w, Calls Try.prog 16 #[.slice none 0 0] w (GaveT w 0 0 0 [] 50) := fun w => dec_bad _ [] w (Sl.of_owns (World.ownsRow_nil w 0 5 1)) (by decide) (by decide +kernel)
  have sn : ∀ w, Calls Try.prog 18 #[.slice none 0 0] w (GaveBo w false) := fun w => snd_bad _ [] w (Sl.of_owns (World.ownsRow_nil w 0 5 1)) (by decide) (by decide +kernel)
  obtain ⟨L, hLl, fe, fd, fb⟩ := full_data
  obtain ⟨M, hMl, me⟩ := none_data
  have HLL := Lib.hid hLl
  have HML := Lib.hid hMl
  go_enter Try.func6, Try.ntmps6
  go_wp2
  go_loopw [1, 2] (fun bd i wr => bd = .bool true ∧ ∃ j : Nat, j ≤ 11 ∧ i = .int .i64 j ∧ Chg (fun _ => False) W wr) (fun _ i _ => 11 - (intOf i).toNat)
  case atStart => exact ⟨rfl, 0, Nat.zero_le _, rfl, Chg.refl _ _⟩
  case round =>
    obtain ⟨rfl, j, hj, rfl, hC⟩ := hrel
    by_cases hlt : j < 11
    · rcases (show j = 0 ∨ j = 1 ∨ j = 2 ∨ j = 3 ∨ j = 4 ∨ j = 5 ∨ j = 6 ∨ j = 7 ∨ j = 8 ∨ j = 9 ∨ j = 10 by omega) with rfl | rfl | rfl | rfl | rfl | rfl | rfl | rfl | rfl | rfl | rfl
      ·
        have hCw : Chg (fun _ => False) wr (((wr.alloc (.cells #[.int .i64 (-5)] 2)).alloc (.cells #[.int .i64 (1), .int .i64 (0), .int .i64 (1), .slice (some ⟨wr.heap.size + 1 + 1, 0, none⟩) 14 14] 24)).alloc (.cells z14 2)) := (((Chg.refl _ wr).alloc _).alloc _).alloc _
        have t0 : (((wr.alloc (.cells #[.int .i64 (-5)] 2)).alloc (.cells #[.int .i64 (1), .int .i64 (0), .int .i64 (1), .slice (some ⟨wr.heap.size + 1 + 1, 0, none⟩) 14 14] 24)).alloc (.cells z14 2)).cell? ⟨wr.heap.size + 1, 0, none⟩ = some (.int .i64 (1)) := alloc_cell (new_cell1 wr _ _ _ rfl) _
        have t1 : (((wr.alloc (.cells #[.int .i64 (-5)] 2)).alloc (.cells #[.int .i64 (1), .int .i64 (0), .int .i64 (1), .slice (some ⟨wr.heap.size + 1 + 1, 0, none⟩) 14 14] 24)).alloc (.cells z14 2)).cell? ⟨wr.heap.size + 1, 1, none⟩ = some (.int .i64 (0)) := alloc_cell (new_cell1 wr _ _ _ rfl) _
        have t2 : (((wr.alloc (.cells #[.int .i64 (-5)] 2)).alloc (.cells #[.int .i64 (1), .int .i64 (0), .int .i64 (1), .slice (some ⟨wr.heap.size + 1 + 1, 0, none⟩) 14 14] 24)).alloc (.cells z14 2)).cell? ⟨wr.heap.size + 1, 2, none⟩ = some (.int .i64 (1)) := alloc_cell (new_cell1 wr _ _ _ rfl) _
        have t3 : (((wr.alloc (.cells #[.int .i64 (-5)] 2)).alloc (.cells #[.int .i64 (1), .int .i64 (0), .int .i64 (1), .slice (some ⟨wr.heap.size + 1 + 1, 0, none⟩) 14 14] 24)).alloc (.cells z14 2)).cell? ⟨wr.heap.size + 1, 3, none⟩ = some (.slice (some ⟨wr.heap.size + 1 + 1, 0, none⟩) 14 14) := alloc_cell (new_cell1 wr _ _ _ rfl) _
        have hSv : Sl (((wr.alloc (.cells #[.int .i64 (-5)] 2)).alloc (.cells #[.int .i64 (1), .int .i64 (0), .int .i64 (1), .slice (some ⟨wr.heap.size + 1 + 1, 0, none⟩) 14 14] 24)).alloc (.cells z14 2)) (.slice (some ⟨wr.heap.size + 1 + 1, 0, none⟩) 14 14) (((List.replicate 14 0) : List Int).map I) := sl_at3 wr _ _ (List.replicate 14 (I 0)) 2 (by unfold maxLen; decide)
        go_wp2_with fail
        refine (encno (1) (0) (1) 1 _ (List.replicate 14 0) _ hSv (by decide) (by decide +kernel)).mono ?_
        rintro e w1 ⟨v1, rfl, ho1, hC1⟩
        obtain ⟨ao1, L1, c1, rfl, hL1⟩ := owns_name ho1
        have hL1' : (L1 : Int) = 0 := by rw [hL1.out]; rfl
        replace t0 := hC1.cell t0 id
        replace t1 := hC1.cell t1 id
        replace t2 := hC1.cell t2 id
        replace t3 := hC1.cell t3 id
        have hSv1 := hSv.fr hC1
        go_wp2_with fail
        refine (chkno (1) (0) (1) 1 _ (List.replicate 14 0) _ hSv1 (by decide) (by decide +kernel)).mono ?_
        rintro e w2 ⟨rfl, hC2⟩
        go_wp2
        go_roundw
        case rel => exact ⟨rfl, 1, by decide, by go_num, ((hC.tr hCw).tr hC1).tr hC2⟩
        case measure => first | (simp [intOf]; done) | (simp [intOf]; omega)
      ·
        have hCw : Chg (fun _ => False) wr ((wr.alloc (.cells #[.int .i64 (-5)] 2)).alloc (.cells #[.int .i64 (1), .int .i64 (0), .int .i64 (3), .slice (some ⟨wr.heap.size, 0, none⟩) 1 1] 24)) := ((Chg.refl _ wr).alloc _).alloc _
        have t0 : ((wr.alloc (.cells #[.int .i64 (-5)] 2)).alloc (.cells #[.int .i64 (1), .int .i64 (0), .int .i64 (3), .slice (some ⟨wr.heap.size, 0, none⟩) 1 1] 24)).cell? ⟨wr.heap.size + 1, 0, none⟩ = some (.int .i64 (1)) := new_cell1 wr _ _ _ rfl
        have t1 : ((wr.alloc (.cells #[.int .i64 (-5)] 2)).alloc (.cells #[.int .i64 (1), .int .i64 (0), .int .i64 (3), .slice (some ⟨wr.heap.size, 0, none⟩) 1 1] 24)).cell? ⟨wr.heap.size + 1, 1, none⟩ = some (.int .i64 (0)) := new_cell1 wr _ _ _ rfl
        have t2 : ((wr.alloc (.cells #[.int .i64 (-5)] 2)).alloc (.cells #[.int .i64 (1), .int .i64 (0), .int .i64 (3), .slice (some ⟨wr.heap.size, 0, none⟩) 1 1] 24)).cell? ⟨wr.heap.size + 1, 2, none⟩ = some (.int .i64 (3)) := new_cell1 wr _ _ _ rfl
        have t3 : ((wr.alloc (.cells #[.int .i64 (-5)] 2)).alloc (.cells #[.int .i64 (1), .int .i64 (0), .int .i64 (3), .slice (some ⟨wr.heap.size, 0, none⟩) 1 1] 24)).cell? ⟨wr.heap.size + 1, 3, none⟩ = some (.slice (some ⟨wr.heap.size, 0, none⟩) 1 1) := new_cell1 wr _ _ _ rfl
        have hSv : Sl ((wr.alloc (.cells #[.int .i64 (-5)] 2)).alloc (.cells #[.int .i64 (1), .int .i64 (0), .int .i64 (3), .slice (some ⟨wr.heap.size, 0, none⟩) 1 1] 24)) (.slice (some ⟨wr.heap.size, 0, none⟩) 1 1) (([-5] : List Int).map I) := (Sl.lit wr [I (-5)] 2 (by unfold maxLen; decide)).fr ((Chg.refl _ _).alloc _)
        go_wp2_with fail
        refine (encno (1) (0) (3) 1 _ [-5] _ hSv (by decide) (by decide +kernel)).mono ?_
        rintro e w1 ⟨v1, rfl, ho1, hC1⟩
        obtain ⟨ao1, L1, c1, rfl, hL1⟩ := owns_name ho1
        have hL1' : (L1 : Int) = 0 := by rw [hL1.out]; rfl
        replace t0 := hC1.cell t0 id
        replace t1 := hC1.cell t1 id
        replace t2 := hC1.cell t2 id
        replace t3 := hC1.cell t3 id
        have hSv1 := hSv.fr hC1
        go_wp2_with fail
        refine (chkno (1) (0) (3) 1 _ [-5] _ hSv1 (by decide) (by decide +kernel)).mono ?_
        rintro e w2 ⟨rfl, hC2⟩
        go_wp2
        go_roundw
        case rel => exact ⟨rfl, 2, by decide, by go_num, ((hC.tr hCw).tr hC1).tr hC2⟩
        case measure => first | (simp [intOf]; done) | (simp [intOf]; omega)
      ·
        have hCw : Chg (fun _ => False) wr ((wr.alloc (.cells #[.int .i64 (-5)] 2)).alloc (.cells #[.int .i64 (0), .int .i64 (0), .int .i64 (1), .slice (some ⟨wr.heap.size, 0, none⟩) 1 1] 24)) := ((Chg.refl _ wr).alloc _).alloc _
        have t0 : ((wr.alloc (.cells #[.int .i64 (-5)] 2)).alloc (.cells #[.int .i64 (0), .int .i64 (0), .int .i64 (1), .slice (some ⟨wr.heap.size, 0, none⟩) 1 1] 24)).cell? ⟨wr.heap.size + 1, 0, none⟩ = some (.int .i64 (0)) := new_cell1 wr _ _ _ rfl
        have t1 : ((wr.alloc (.cells #[.int .i64 (-5)] 2)).alloc (.cells #[.int .i64 (0), .int .i64 (0), .int .i64 (1), .slice (some ⟨wr.heap.size, 0, none⟩) 1 1] 24)).cell? ⟨wr.heap.size + 1, 1, none⟩ = some (.int .i64 (0)) := new_cell1 wr _ _ _ rfl
        have t2 : ((wr.alloc (.cells #[.int .i64 (-5)] 2)).alloc (.cells #[.int .i64 (0), .int .i64 (0), .int .i64 (1), .slice (some ⟨wr.heap.size, 0, none⟩) 1 1] 24)).cell? ⟨wr.heap.size + 1, 2, none⟩ = some (.int .i64 (1)) := new_cell1 wr _ _ _ rfl
        have t3 : ((wr.alloc (.cells #[.int .i64 (-5)] 2)).alloc (.cells #[.int .i64 (0), .int .i64 (0), .int .i64 (1), .slice (some ⟨wr.heap.size, 0, none⟩) 1 1] 24)).cell? ⟨wr.heap.size + 1, 3, none⟩ = some (.slice (some ⟨wr.heap.size, 0, none⟩) 1 1) := new_cell1 wr _ _ _ rfl
        have hSv : Sl ((wr.alloc (.cells #[.int .i64 (-5)] 2)).alloc (.cells #[.int .i64 (0), .int .i64 (0), .int .i64 (1), .slice (some ⟨wr.heap.size, 0, none⟩) 1 1] 24)) (.slice (some ⟨wr.heap.size, 0, none⟩) 1 1) (([-5] : List Int).map I) := (Sl.lit wr [I (-5)] 2 (by unfold maxLen; decide)).fr ((Chg.refl _ _).alloc _)
        go_wp2_with fail
        refine (encno (0) (0) (1) 1 _ [-5] _ hSv (by decide) (by decide +kernel)).mono ?_
        rintro e w1 ⟨v1, rfl, ho1, hC1⟩
        obtain ⟨ao1, L1, c1, rfl, hL1⟩ := owns_name ho1
        have hL1' : (L1 : Int) = 0 := by rw [hL1.out]; rfl
        replace t0 := hC1.cell t0 id
        replace t1 := hC1.cell t1 id
        replace t2 := hC1.cell t2 id
        replace t3 := hC1.cell t3 id
        have hSv1 := hSv.fr hC1
        go_wp2_with fail
        refine (chkno (0) (0) (1) 1 _ [-5] _ hSv1 (by decide) (by decide +kernel)).mono ?_
        rintro e w2 ⟨rfl, hC2⟩
        go_wp2
        go_roundw
        case rel => exact ⟨rfl, 3, by decide, by go_num, ((hC.tr hCw).tr hC1).tr hC2⟩
        case measure => first | (simp [intOf]; done) | (simp [intOf]; omega)
      ·
        have hCw : Chg (fun _ => False) wr ((wr.alloc (.cells #[.int .i64 (-5)] 2)).alloc (.cells #[.int .i64 (1), .int .i64 (-1), .int .i64 (1), .slice (some ⟨wr.heap.size, 0, none⟩) 1 1] 24)) := ((Chg.refl _ wr).alloc _).alloc _
        have t0 : ((wr.alloc (.cells #[.int .i64 (-5)] 2)).alloc (.cells #[.int .i64 (1), .int .i64 (-1), .int .i64 (1), .slice (some ⟨wr.heap.size, 0, none⟩) 1 1] 24)).cell? ⟨wr.heap.size + 1, 0, none⟩ = some (.int .i64 (1)) := new_cell1 wr _ _ _ rfl
        have t1 : ((wr.alloc (.cells #[.int .i64 (-5)] 2)).alloc (.cells #[.int .i64 (1), .int .i64 (-1), .int .i64 (1), .slice (some ⟨wr.heap.size, 0, none⟩) 1 1] 24)).cell? ⟨wr.heap.size + 1, 1, none⟩ = some (.int .i64 (-1)) := new_cell1 wr _ _ _ rfl
        have t2 : ((wr.alloc (.cells #[.int .i64 (-5)] 2)).alloc (.cells #[.int .i64 (1), .int .i64 (-1), .int .i64 (1), .slice (some ⟨wr.heap.size, 0, none⟩) 1 1] 24)).cell? ⟨wr.heap.size + 1, 2, none⟩ = some (.int .i64 (1)) := new_cell1 wr _ _ _ rfl
        have t3 : ((wr.alloc (.cells #[.int .i64 (-5)] 2)).alloc (.cells #[.int .i64 (1), .int .i64 (-1), .int .i64 (1), .slice (some ⟨wr.heap.size, 0, none⟩) 1 1] 24)).cell? ⟨wr.heap.size + 1, 3, none⟩ = some (.slice (some ⟨wr.heap.size, 0, none⟩) 1 1) := new_cell1 wr _ _ _ rfl
        have hSv : Sl ((wr.alloc (.cells #[.int .i64 (-5)] 2)).alloc (.cells #[.int .i64 (1), .int .i64 (-1), .int .i64 (1), .slice (some ⟨wr.heap.size, 0, none⟩) 1 1] 24)) (.slice (some ⟨wr.heap.size, 0, none⟩) 1 1) (([-5] : List Int).map I) := (Sl.lit wr [I (-5)] 2 (by unfold maxLen; decide)).fr ((Chg.refl _ _).alloc _)
        go_wp2_with fail
        refine (encno (1) (-1) (1) 1 _ [-5] _ hSv (by decide) (by decide +kernel)).mono ?_
        rintro e w1 ⟨v1, rfl, ho1, hC1⟩
        obtain ⟨ao1, L1, c1, rfl, hL1⟩ := owns_name ho1
        have hL1' : (L1 : Int) = 0 := by rw [hL1.out]; rfl
        replace t0 := hC1.cell t0 id
        replace t1 := hC1.cell t1 id
        replace t2 := hC1.cell t2 id
        replace t3 := hC1.cell t3 id
        have hSv1 := hSv.fr hC1
        go_wp2_with fail
        refine (chkno (1) (-1) (1) 1 _ [-5] _ hSv1 (by decide) (by decide +kernel)).mono ?_
        rintro e w2 ⟨rfl, hC2⟩
        go_wp2
        go_roundw
        case rel => exact ⟨rfl, 4, by decide, by go_num, ((hC.tr hCw).tr hC1).tr hC2⟩
        case measure => first | (simp [intOf]; done) | (simp [intOf]; omega)
      ·
        have hCw : Chg (fun _ => False) wr ((wr.alloc (.cells #[.int .i64 (-5)] 2)).alloc (.cells #[.int .i64 (1), .int .i64 (4096), .int .i64 (1), .slice (some ⟨wr.heap.size, 0, none⟩) 1 1] 24)) := ((Chg.refl _ wr).alloc _).alloc _
        have t0 : ((wr.alloc (.cells #[.int .i64 (-5)] 2)).alloc (.cells #[.int .i64 (1), .int .i64 (4096), .int .i64 (1), .slice (some ⟨wr.heap.size, 0, none⟩) 1 1] 24)).cell? ⟨wr.heap.size + 1, 0, none⟩ = some (.int .i64 (1)) := new_cell1 wr _ _ _ rfl
        have t1 : ((wr.alloc (.cells #[.int .i64 (-5)] 2)).alloc (.cells #[.int .i64 (1), .int .i64 (4096), .int .i64 (1), .slice (some ⟨wr.heap.size, 0, none⟩) 1 1] 24)).cell? ⟨wr.heap.size + 1, 1, none⟩ = some (.int .i64 (4096)) := new_cell1 wr _ _ _ rfl
        have t2 : ((wr.alloc (.cells #[.int .i64 (-5)] 2)).alloc (.cells #[.int .i64 (1), .int .i64 (4096), .int .i64 (1), .slice (some ⟨wr.heap.size, 0, none⟩) 1 1] 24)).cell? ⟨wr.heap.size + 1, 2, none⟩ = some (.int .i64 (1)) := new_cell1 wr _ _ _ rfl
        have t3 : ((wr.alloc (.cells #[.int .i64 (-5)] 2)).alloc (.cells #[.int .i64 (1), .int .i64 (4096), .int .i64 (1), .slice (some ⟨wr.heap.size, 0, none⟩) 1 1] 24)).cell? ⟨wr.heap.size + 1, 3, none⟩ = some (.slice (some ⟨wr.heap.size, 0, none⟩) 1 1) := new_cell1 wr _ _ _ rfl
        have hSv : Sl ((wr.alloc (.cells #[.int .i64 (-5)] 2)).alloc (.cells #[.int .i64 (1), .int .i64 (4096), .int .i64 (1), .slice (some ⟨wr.heap.size, 0, none⟩) 1 1] 24)) (.slice (some ⟨wr.heap.size, 0, none⟩) 1 1) (([-5] : List Int).map I) := (Sl.lit wr [I (-5)] 2 (by unfold maxLen; decide)).fr ((Chg.refl _ _).alloc _)
        go_wp2_with fail
        refine (encno (1) (4096) (1) 1 _ [-5] _ hSv (by decide) (by decide +kernel)).mono ?_
        rintro e w1 ⟨v1, rfl, ho1, hC1⟩
        obtain ⟨ao1, L1, c1, rfl, hL1⟩ := owns_name ho1
        have hL1' : (L1 : Int) = 0 := by rw [hL1.out]; rfl
        replace t0 := hC1.cell t0 id
        replace t1 := hC1.cell t1 id
        replace t2 := hC1.cell t2 id
        replace t3 := hC1.cell t3 id
        have hSv1 := hSv.fr hC1
        go_wp2_with fail
        refine (chkno (1) (4096) (1) 1 _ [-5] _ hSv1 (by decide) (by decide +kernel)).mono ?_
        rintro e w2 ⟨rfl, hC2⟩
        go_wp2
        go_roundw
        case rel => exact ⟨rfl, 5, by decide, by go_num, ((hC.tr hCw).tr hC1).tr hC2⟩
        case measure => first | (simp [intOf]; done) | (simp [intOf]; omega)
      ·
        have hCw : Chg (fun _ => False) wr ((wr.alloc (.cells #[.int .i64 (-5)] 2)).alloc (.cells #[.int .i64 (1), .int .i64 (0), .int .i64 (2), .slice (some ⟨wr.heap.size, 0, none⟩) 1 1] 24)) := ((Chg.refl _ wr).alloc _).alloc _
        have t0 : ((wr.alloc (.cells #[.int .i64 (-5)] 2)).alloc (.cells #[.int .i64 (1), .int .i64 (0), .int .i64 (2), .slice (some ⟨wr.heap.size, 0, none⟩) 1 1] 24)).cell? ⟨wr.heap.size + 1, 0, none⟩ = some (.int .i64 (1)) := new_cell1 wr _ _ _ rfl
        have t1 : ((wr.alloc (.cells #[.int .i64 (-5)] 2)).alloc (.cells #[.int .i64 (1), .int .i64 (0), .int .i64 (2), .slice (some ⟨wr.heap.size, 0, none⟩) 1 1] 24)).cell? ⟨wr.heap.size + 1, 1, none⟩ = some (.int .i64 (0)) := new_cell1 wr _ _ _ rfl
        have t2 : ((wr.alloc (.cells #[.int .i64 (-5)] 2)).alloc (.cells #[.int .i64 (1), .int .i64 (0), .int .i64 (2), .slice (some ⟨wr.heap.size, 0, none⟩) 1 1] 24)).cell? ⟨wr.heap.size + 1, 2, none⟩ = some (.int .i64 (2)) := new_cell1 wr _ _ _ rfl
        have t3 : ((wr.alloc (.cells #[.int .i64 (-5)] 2)).alloc (.cells #[.int .i64 (1), .int .i64 (0), .int .i64 (2), .slice (some ⟨wr.heap.size, 0, none⟩) 1 1] 24)).cell? ⟨wr.heap.size + 1, 3, none⟩ = some (.slice (some ⟨wr.heap.size, 0, none⟩) 1 1) := new_cell1 wr _ _ _ rfl
        have hSv : Sl ((wr.alloc (.cells #[.int .i64 (-5)] 2)).alloc (.cells #[.int .i64 (1), .int .i64 (0), .int .i64 (2), .slice (some ⟨wr.heap.size, 0, none⟩) 1 1] 24)) (.slice (some ⟨wr.heap.size, 0, none⟩) 1 1) (([-5] : List Int).map I) := (Sl.lit wr [I (-5)] 2 (by unfold maxLen; decide)).fr ((Chg.refl _ _).alloc _)
        go_wp2_with fail
        refine (encno (1) (0) (2) 1 _ [-5] _ hSv (by decide) (by decide +kernel)).mono ?_
        rintro e w1 ⟨v1, rfl, ho1, hC1⟩
        obtain ⟨ao1, L1, c1, rfl, hL1⟩ := owns_name ho1
        have hL1' : (L1 : Int) = 0 := by rw [hL1.out]; rfl
        replace t0 := hC1.cell t0 id
        replace t1 := hC1.cell t1 id
        replace t2 := hC1.cell t2 id
        replace t3 := hC1.cell t3 id
        have hSv1 := hSv.fr hC1
        go_wp2_with fail
        refine (chkno (1) (0) (2) 1 _ [-5] _ hSv1 (by decide) (by decide +kernel)).mono ?_
        rintro e w2 ⟨rfl, hC2⟩
        go_wp2
        go_roundw
        case rel => exact ⟨rfl, 6, by decide, by go_num, ((hC.tr hCw).tr hC1).tr hC2⟩
        case measure => first | (simp [intOf]; done) | (simp [intOf]; omega)
      ·
        have hCw : Chg (fun _ => False) wr (((wr.alloc (.cells #[.int .i64 (-5)] 2)).alloc (.cells #[.int .i64 (1), .int .i64 (0), .int .i64 (2), .slice (some ⟨wr.heap.size + 1 + 1, 0, none⟩) 1 1] 24)).alloc (.cells #[.int .i64 1114112] 2)) := (((Chg.refl _ wr).alloc _).alloc _).alloc _
        have t0 : (((wr.alloc (.cells #[.int .i64 (-5)] 2)).alloc (.cells #[.int .i64 (1), .int .i64 (0), .int .i64 (2), .slice (some ⟨wr.heap.size + 1 + 1, 0, none⟩) 1 1] 24)).alloc (.cells #[.int .i64 1114112] 2)).cell? ⟨wr.heap.size + 1, 0, none⟩ = some (.int .i64 (1)) := alloc_cell (new_cell1 wr _ _ _ rfl) _
        have t1 : (((wr.alloc (.cells #[.int .i64 (-5)] 2)).alloc (.cells #[.int .i64 (1), .int .i64 (0), .int .i64 (2), .slice (some ⟨wr.heap.size + 1 + 1, 0, none⟩) 1 1] 24)).alloc (.cells #[.int .i64 1114112] 2)).cell? ⟨wr.heap.size + 1, 1, none⟩ = some (.int .i64 (0)) := alloc_cell (new_cell1 wr _ _ _ rfl) _
        have t2 : (((wr.alloc (.cells #[.int .i64 (-5)] 2)).alloc (.cells #[.int .i64 (1), .int .i64 (0), .int .i64 (2), .slice (some ⟨wr.heap.size + 1 + 1, 0, none⟩) 1 1] 24)).alloc (.cells #[.int .i64 1114112] 2)).cell? ⟨wr.heap.size + 1, 2, none⟩ = some (.int .i64 (2)) := alloc_cell (new_cell1 wr _ _ _ rfl) _
        have t3 : (((wr.alloc (.cells #[.int .i64 (-5)] 2)).alloc (.cells #[.int .i64 (1), .int .i64 (0), .int .i64 (2), .slice (some ⟨wr.heap.size + 1 + 1, 0, none⟩) 1 1] 24)).alloc (.cells #[.int .i64 1114112] 2)).cell? ⟨wr.heap.size + 1, 3, none⟩ = some (.slice (some ⟨wr.heap.size + 1 + 1, 0, none⟩) 1 1) := alloc_cell (new_cell1 wr _ _ _ rfl) _
        have hSv : Sl (((wr.alloc (.cells #[.int .i64 (-5)] 2)).alloc (.cells #[.int .i64 (1), .int .i64 (0), .int .i64 (2), .slice (some ⟨wr.heap.size + 1 + 1, 0, none⟩) 1 1] 24)).alloc (.cells #[.int .i64 1114112] 2)) (.slice (some ⟨wr.heap.size + 1 + 1, 0, none⟩) 1 1) (([1114112] : List Int).map I) := sl_at3 wr _ _ [I 1114112] 2 (by unfold maxLen; decide)
        go_wp2_with fail
        refine (encno (1) (0) (2) 1 _ [1114112] _ hSv (by decide) (by decide +kernel)).mono ?_
        rintro e w1 ⟨v1, rfl, ho1, hC1⟩
        obtain ⟨ao1, L1, c1, rfl, hL1⟩ := owns_name ho1
        have hL1' : (L1 : Int) = 0 := by rw [hL1.out]; rfl
        replace t0 := hC1.cell t0 id
        replace t1 := hC1.cell t1 id
        replace t2 := hC1.cell t2 id
        replace t3 := hC1.cell t3 id
        have hSv1 := hSv.fr hC1
        go_wp2_with fail
        refine (chkno (1) (0) (2) 1 _ [1114112] _ hSv1 (by decide) (by decide +kernel)).mono ?_
        rintro e w2 ⟨rfl, hC2⟩
        go_wp2
        go_roundw
        case rel => exact ⟨rfl, 7, by decide, by go_num, ((hC.tr hCw).tr hC1).tr hC2⟩
        case measure => first | (simp [intOf]; done) | (simp [intOf]; omega)
      ·
        have hCw : Chg (fun _ => False) wr ((wr.alloc (.cells #[.int .i64 (-5)] 2)).alloc (.cells #[.int .i64 (1), .int .i64 (0), .int .i64 (1), .slice (some ⟨wr.heap.size, 0, none⟩) 1 1] 24)) := ((Chg.refl _ wr).alloc _).alloc _
        have t0 : ((wr.alloc (.cells #[.int .i64 (-5)] 2)).alloc (.cells #[.int .i64 (1), .int .i64 (0), .int .i64 (1), .slice (some ⟨wr.heap.size, 0, none⟩) 1 1] 24)).cell? ⟨wr.heap.size + 1, 0, none⟩ = some (.int .i64 (1)) := new_cell1 wr _ _ _ rfl
        have t1 : ((wr.alloc (.cells #[.int .i64 (-5)] 2)).alloc (.cells #[.int .i64 (1), .int .i64 (0), .int .i64 (1), .slice (some ⟨wr.heap.size, 0, none⟩) 1 1] 24)).cell? ⟨wr.heap.size + 1, 1, none⟩ = some (.int .i64 (0)) := new_cell1 wr _ _ _ rfl
        have t2 : ((wr.alloc (.cells #[.int .i64 (-5)] 2)).alloc (.cells #[.int .i64 (1), .int .i64 (0), .int .i64 (1), .slice (some ⟨wr.heap.size, 0, none⟩) 1 1] 24)).cell? ⟨wr.heap.size + 1, 2, none⟩ = some (.int .i64 (1)) := new_cell1 wr _ _ _ rfl
        have t3 : ((wr.alloc (.cells #[.int .i64 (-5)] 2)).alloc (.cells #[.int .i64 (1), .int .i64 (0), .int .i64 (1), .slice (some ⟨wr.heap.size, 0, none⟩) 1 1] 24)).cell? ⟨wr.heap.size + 1, 3, none⟩ = some (.slice (some ⟨wr.heap.size, 0, none⟩) 1 1) := new_cell1 wr _ _ _ rfl
        have hSv : Sl ((wr.alloc (.cells #[.int .i64 (-5)] 2)).alloc (.cells #[.int .i64 (1), .int .i64 (0), .int .i64 (1), .slice (some ⟨wr.heap.size, 0, none⟩) 1 1] 24)) (.slice (some ⟨wr.heap.size, 0, none⟩) 1 1) (([-5] : List Int).map I) := (Sl.lit wr [I (-5)] 2 (by unfold maxLen; decide)).fr ((Chg.refl _ _).alloc _)
        go_wp2_with fail
        refine (encno (1) (0) (1) 0 _ [-5] _ hSv (by decide) (by decide +kernel)).mono ?_
        rintro e w1 ⟨v1, rfl, ho1, hC1⟩
        obtain ⟨ao1, L1, c1, rfl, hL1⟩ := owns_name ho1
        have hL1' : (L1 : Int) = 0 := by rw [hL1.out]; rfl
        replace t0 := hC1.cell t0 id
        replace t1 := hC1.cell t1 id
        replace t2 := hC1.cell t2 id
        replace t3 := hC1.cell t3 id
        have hSv1 := hSv.fr hC1
        go_wp2_with fail
        refine (chkno (1) (0) (1) 0 _ [-5] _ hSv1 (by decide) (by decide +kernel)).mono ?_
        rintro e w2 ⟨rfl, hC2⟩
        go_wp2
        go_roundw
        case rel => exact ⟨rfl, 8, by decide, by go_num, ((hC.tr hCw).tr hC1).tr hC2⟩
        case measure => first | (simp [intOf]; done) | (simp [intOf]; omega)
      ·
        have hCw : Chg (fun _ => False) wr ((wr.alloc (.cells #[.int .i64 (-5)] 2)).alloc (.cells #[.int .i64 (1), .int .i64 (0), .int .i64 (1), .slice (some ⟨wr.heap.size, 0, none⟩) 1 1] 24)) := ((Chg.refl _ wr).alloc _).alloc _
        have t0 : ((wr.alloc (.cells #[.int .i64 (-5)] 2)).alloc (.cells #[.int .i64 (1), .int .i64 (0), .int .i64 (1), .slice (some ⟨wr.heap.size, 0, none⟩) 1 1] 24)).cell? ⟨wr.heap.size + 1, 0, none⟩ = some (.int .i64 (1)) := new_cell1 wr _ _ _ rfl
        have t1 : ((wr.alloc (.cells #[.int .i64 (-5)] 2)).alloc (.cells #[.int .i64 (1), .int .i64 (0), .int .i64 (1), .slice (some ⟨wr.heap.size, 0, none⟩) 1 1] 24)).cell? ⟨wr.heap.size + 1, 1, none⟩ = some (.int .i64 (0)) := new_cell1 wr _ _ _ rfl
        have t2 : ((wr.alloc (.cells #[.int .i64 (-5)] 2)).alloc (.cells #[.int .i64 (1), .int .i64 (0), .int .i64 (1), .slice (some ⟨wr.heap.size, 0, none⟩) 1 1] 24)).cell? ⟨wr.heap.size + 1, 2, none⟩ = some (.int .i64 (1)) := new_cell1 wr _ _ _ rfl
        have t3 : ((wr.alloc (.cells #[.int .i64 (-5)] 2)).alloc (.cells #[.int .i64 (1), .int .i64 (0), .int .i64 (1), .slice (some ⟨wr.heap.size, 0, none⟩) 1 1] 24)).cell? ⟨wr.heap.size + 1, 3, none⟩ = some (.slice (some ⟨wr.heap.size, 0, none⟩) 1 1) := new_cell1 wr _ _ _ rfl
        have hSv : Sl ((wr.alloc (.cells #[.int .i64 (-5)] 2)).alloc (.cells #[.int .i64 (1), .int .i64 (0), .int .i64 (1), .slice (some ⟨wr.heap.size, 0, none⟩) 1 1] 24)) (.slice (some ⟨wr.heap.size, 0, none⟩) 1 1) (([-5] : List Int).map I) := (Sl.lit wr [I (-5)] 2 (by unfold maxLen; decide)).fr ((Chg.refl _ _).alloc _)
        go_wp2_with fail
        refine (encno (1) (0) (1) 65 _ [-5] _ hSv (by decide) (by decide +kernel)).mono ?_
        rintro e w1 ⟨v1, rfl, ho1, hC1⟩
        obtain ⟨ao1, L1, c1, rfl, hL1⟩ := owns_name ho1
        have hL1' : (L1 : Int) = 0 := by rw [hL1.out]; rfl
        replace t0 := hC1.cell t0 id
        replace t1 := hC1.cell t1 id
        replace t2 := hC1.cell t2 id
        replace t3 := hC1.cell t3 id
        have hSv1 := hSv.fr hC1
        go_wp2_with fail
        refine (chkno (1) (0) (1) 65 _ [-5] _ hSv1 (by decide) (by decide +kernel)).mono ?_
        rintro e w2 ⟨rfl, hC2⟩
        go_wp2
        go_roundw
        case rel => exact ⟨rfl, 9, by decide, by go_num, ((hC.tr hCw).tr hC1).tr hC2⟩
        case measure => first | (simp [intOf]; done) | (simp [intOf]; omega)
      ·
        have hCw : Chg (fun _ => False) wr ((wr.alloc (.cells #[.int .i64 (-5)] 2)).alloc (.cells #[.int .i64 (1), .int .i64 (0), .int .i64 (0), .slice (some ⟨wr.heap.size, 0, none⟩) 1 1] 24)) := ((Chg.refl _ wr).alloc _).alloc _
        have t0 : ((wr.alloc (.cells #[.int .i64 (-5)] 2)).alloc (.cells #[.int .i64 (1), .int .i64 (0), .int .i64 (0), .slice (some ⟨wr.heap.size, 0, none⟩) 1 1] 24)).cell? ⟨wr.heap.size + 1, 0, none⟩ = some (.int .i64 (1)) := new_cell1 wr _ _ _ rfl
        have t1 : ((wr.alloc (.cells #[.int .i64 (-5)] 2)).alloc (.cells #[.int .i64 (1), .int .i64 (0), .int .i64 (0), .slice (some ⟨wr.heap.size, 0, none⟩) 1 1] 24)).cell? ⟨wr.heap.size + 1, 1, none⟩ = some (.int .i64 (0)) := new_cell1 wr _ _ _ rfl
        have t2 : ((wr.alloc (.cells #[.int .i64 (-5)] 2)).alloc (.cells #[.int .i64 (1), .int .i64 (0), .int .i64 (0), .slice (some ⟨wr.heap.size, 0, none⟩) 1 1] 24)).cell? ⟨wr.heap.size + 1, 2, none⟩ = some (.int .i64 (0)) := new_cell1 wr _ _ _ rfl
        have t3 : ((wr.alloc (.cells #[.int .i64 (-5)] 2)).alloc (.cells #[.int .i64 (1), .int .i64 (0), .int .i64 (0), .slice (some ⟨wr.heap.size, 0, none⟩) 1 1] 24)).cell? ⟨wr.heap.size + 1, 3, none⟩ = some (.slice (some ⟨wr.heap.size, 0, none⟩) 1 1) := new_cell1 wr _ _ _ rfl
        have hSv : Sl ((wr.alloc (.cells #[.int .i64 (-5)] 2)).alloc (.cells #[.int .i64 (1), .int .i64 (0), .int .i64 (0), .slice (some ⟨wr.heap.size, 0, none⟩) 1 1] 24)) (.slice (some ⟨wr.heap.size, 0, none⟩) 1 1) (([-5] : List Int).map I) := (Sl.lit wr [I (-5)] 2 (by unfold maxLen; decide)).fr ((Chg.refl _ _).alloc _)
        go_wp2_with fail
        refine (encno (1) (0) (0) 1 _ [-5] _ hSv (by decide) (by decide +kernel)).mono ?_
        rintro e w1 ⟨v1, rfl, ho1, hC1⟩
        obtain ⟨ao1, L1, c1, rfl, hL1⟩ := owns_name ho1
        have hL1' : (L1 : Int) = 0 := by rw [hL1.out]; rfl
        replace t0 := hC1.cell t0 id
        replace t1 := hC1.cell t1 id
        replace t2 := hC1.cell t2 id
        replace t3 := hC1.cell t3 id
        have hSv1 := hSv.fr hC1
        go_wp2_with fail
        refine (chkno (1) (0) (0) 1 _ [-5] _ hSv1 (by decide) (by decide +kernel)).mono ?_
        rintro e w2 ⟨rfl, hC2⟩
        go_wp2
        go_roundw
        case rel => exact ⟨rfl, 10, by decide, by go_num, ((hC.tr hCw).tr hC1).tr hC2⟩
        case measure => first | (simp [intOf]; done) | (simp [intOf]; omega)
      ·
        have hCw : Chg (fun _ => False) wr ((wr.alloc (.cells #[.int .i64 (-5)] 2)).alloc (.cells #[.int .i64 (-1), .int .i64 (0), .int .i64 (1), .slice (some ⟨wr.heap.size, 0, none⟩) 1 1] 24)) := ((Chg.refl _ wr).alloc _).alloc _
        have t0 : ((wr.alloc (.cells #[.int .i64 (-5)] 2)).alloc (.cells #[.int .i64 (-1), .int .i64 (0), .int .i64 (1), .slice (some ⟨wr.heap.size, 0, none⟩) 1 1] 24)).cell? ⟨wr.heap.size + 1, 0, none⟩ = some (.int .i64 (-1)) := new_cell1 wr _ _ _ rfl
        have t1 : ((wr.alloc (.cells #[.int .i64 (-5)] 2)).alloc (.cells #[.int .i64 (-1), .int .i64 (0), .int .i64 (1), .slice (some ⟨wr.heap.size, 0, none⟩) 1 1] 24)).cell? ⟨wr.heap.size + 1, 1, none⟩ = some (.int .i64 (0)) := new_cell1 wr _ _ _ rfl
        have t2 : ((wr.alloc (.cells #[.int .i64 (-5)] 2)).alloc (.cells #[.int .i64 (-1), .int .i64 (0), .int .i64 (1), .slice (some ⟨wr.heap.size, 0, none⟩) 1 1] 24)).cell? ⟨wr.heap.size + 1, 2, none⟩ = some (.int .i64 (1)) := new_cell1 wr _ _ _ rfl
        have t3 : ((wr.alloc (.cells #[.int .i64 (-5)] 2)).alloc (.cells #[.int .i64 (-1), .int .i64 (0), .int .i64 (1), .slice (some ⟨wr.heap.size, 0, none⟩) 1 1] 24)).cell? ⟨wr.heap.size + 1, 3, none⟩ = some (.slice (some ⟨wr.heap.size, 0, none⟩) 1 1) := new_cell1 wr _ _ _ rfl
        have hSv : Sl ((wr.alloc (.cells #[.int .i64 (-5)] 2)).alloc (.cells #[.int .i64 (-1), .int .i64 (0), .int .i64 (1), .slice (some ⟨wr.heap.size, 0, none⟩) 1 1] 24)) (.slice (some ⟨wr.heap.size, 0, none⟩) 1 1) (([-5] : List Int).map I) := (Sl.lit wr [I (-5)] 2 (by unfold maxLen; decide)).fr ((Chg.refl _ _).alloc _)
        go_wp2_with fail
        refine (encno (-1) (0) (1) 1 _ [-5] _ hSv (by decide) (by decide +kernel)).mono ?_
        rintro e w1 ⟨v1, rfl, ho1, hC1⟩
        obtain ⟨ao1, L1, c1, rfl, hL1⟩ := owns_name ho1
        have hL1' : (L1 : Int) = 0 := by rw [hL1.out]; rfl
        replace t0 := hC1.cell t0 id
        replace t1 := hC1.cell t1 id
        replace t2 := hC1.cell t2 id
        replace t3 := hC1.cell t3 id
        have hSv1 := hSv.fr hC1
        go_wp2_with fail
        refine (chkno (-1) (0) (1) 1 _ [-5] _ hSv1 (by decide) (by decide +kernel)).mono ?_
        rintro e w2 ⟨rfl, hC2⟩
        go_wp2
        go_roundw
        case rel => exact ⟨rfl, 11, by decide, by go_num, ((hC.tr hCw).tr hC1).tr hC2⟩
        case measure => first | (simp [intOf]; done) | (simp [intOf]; omega)
    · obtain rfl : j = 11 := by omega
      have hz := Sl.lit wr ((List.replicate 128 (0 : UInt8)).map B) 5 (by unfold maxLen; decide)
      have hX := hC.alloc (.cells b128 5)
      go_wp2_with fail
      refine (dz _ _ hz).mono ?_
      clear dz hz
      rintro e w1 ⟨v1, rfl, ho1, hC1⟩
      obtain ⟨a1, l1, c1, rfl, _⟩ := owns_name ho1
      clear ho1
      replace hX := (hX.tr hC1).alloc (.cells #[.int .i64 0, .int .i64 0, .int .i64 0, .slice a1 l1 c1] 24)
      go_wp2_with fail
      refine (dn _).mono ?_
      rintro e w2 ⟨v2, rfl, ho2, hC2⟩
      obtain ⟨a2, l2, c2, rfl, _⟩ := owns_name ho2
      clear ho2
      go_wp2_with fail
      have hX2 := ((hX.tr hC2).alloc (.cells #[.int .i64 0, .int .i64 0, .int .i64 0, .slice a2 l2 c2] 24)).alloc (.cells z13 2)
      refine (fe _ _ (sl_at2 w2 _ (List.replicate 13 (I 0)) 2 (by unfold maxLen; decide))).mono ?_
      clear fe hX hC1 hC2
      rintro e w3 ⟨v3, rfl, ho3, hC3⟩
      have hs3 := Sl.of_owns ho3
      obtain ⟨a3, l3, c3, rfl, hl3⟩ := owns_name ho3
      have h3 := HLL.out
      have hl3' : l3 = 128 := by rw [hl3.out]; exact HLL.out
      have HL3 := Lib.hid hl3'
      clear h3 hl3'
      go_wp2_with fail
      refine (fd _ _ hs3).mono ?_
      clear fd
      rintro e w4 ⟨v4, rfl, ho4, hC4⟩
      obtain ⟨a4, l4, c4, rfl, _⟩ := owns_name ho4
      clear ho4
      obtain ⟨i0, hi, hz0, hz1, hz2⟩ := info_parts Try.info5
      have hC4' := (hC4.alloc (.cells #[.int .i64 9223372036854775807, .int .i64 4095, .int .i64 1, .slice a4 l4 c4] 24)).alloc (.cells #[.int .u8 0] 5)
      have hown4 := hC4'.owns ho3 (fun _ _ => id)
      have hsr := (sl_at2 w4 (.cells #[.int .i64 9223372036854775807, .int .i64 4095, .int .i64 1, .slice a4 l4 c4] 24) [.int .u8 0] 5 (by unfold maxLen; decide)).src
      have hbs := (hC3.tr hC4').size
      have hm1 : L.length + 1 ≤ maxLen := by rw [HLL.out]; unfold maxLen; decide
      have hm2 : (L.length + 1) * 1 ≤ 140737488355328 := by rw [HLL.out]; decide
      have hX4 := (hX2.tr hC3).tr hC4'
      clear ho3 hs3
      go_wp2_with (at_builtin; go_loud (refine wpList_append_own_any rfl (.tmp 103) (.tmp 104) 25 rfl _ 5 i0 (.int .u8 0) 1 1 Try.underlying25 hi hz0 hz1 hz2 rfl (by decide) (.slice a3 l3 c3) _ _ rfl hown4 (some ⟨w4.heap.size + 1, 0, none⟩) 1 1 [.int .u8 0] rfl rfl hsr (by simp [Value.oneCell']) hm1 hm2 hbs ?_; intro v5 w5 hown5 hg5 _ _; have hs5 := Sl.of_owns hown5; have hX5 := hX4.grown hg5 (fun q e => .inr (Nat.le_trans hX2.size (hown4.lt q e).1)); obtain ⟨a5, l5, c5, rfl, _⟩ := owns_name hown5))
      have e5 : L.map B ++ [Value.int .u8 0] = (L ++ [0]).map B := by simp [B]
      rw [e5] at hs5
      refine (dec_bad _ _ _ hs5 (by rw [List.length_append, HLL.out]; decide) fb).mono ?_
      clear hs5 e5 hg5 hown5 hown4 hsr hC4' hC4 hC3 hbs hm1 hm2 hX2 hX4 fb
      rintro e w6 ⟨v6, rfl, ho6, hC6⟩
      obtain ⟨a6, l6, c6, rfl, _⟩ := owns_name ho6
      clear ho6
      replace hX5 := (hX5.tr hC6).alloc (.cells #[.int .i64 0, .int .i64 0, .int .i64 0, .slice a6 l6 c6] 24)
      go_wp2_with fail
      refine (me _).mono ?_
      clear me
      rintro e w7 ⟨v7, rfl, ho7, hC7⟩
      obtain ⟨a7, l7, c7, rfl, hl7⟩ := owns_name ho7
      have hl7' : (l7 : Int) = 256 := by rw [hl7.out, HML.out]; rfl
      have hX7 := hX5.tr hC7
      clear ho7 hC7 hl7 hX5
      have f1 := tfit_any 2
      have f2 := tfit_any 65
      have f3 := tfit_any 0
      rw [show fitT 2 = 29 from rfl] at f1
      rw [show fitT 65 = 0 from rfl] at f2
      rw [show fitT 0 = 0 from rfl] at f3
      go_wp2_with fail
      refine (alive_any _).mono ?_
      rintro e w8 ⟨rfl, hC8⟩
      have hX8 := hX7.tr hC8
      have hX9 := hX8.alloc (.cells b128 5)
      have hzs : Sl (w8.alloc (.cells b128 5)) (.slice (some ⟨w8.heap.size, 0, none⟩) 128 128) ((List.replicate 128 (0 : UInt8)).map B) := Sl.lit w8 ((List.replicate 128 (0 : UInt8)).map B) 5 (by unfold maxLen; decide)
      obtain ⟨a9, d9, hS9, _, _, _, hcut⟩ := hzs.slice 25 5 Try.underlying25 sizeOf_u8 0 127 (by decide) (by decide)
      replace hcut : ∀ W, (Instr.slice 25 (.slice (some ⟨w8.heap.size, 0, none⟩) 128 128) none (some (.int .i64 127)) none).run Try.prog W = .ok (.slice a9 127 d9) W := hcut rfl
      rw [← List.map_take, List.drop_zero] at hS9
      replace hS9 : Sl (w8.alloc (.cells b128 5)) (.slice a9 127 d9) (((List.replicate 128 (0 : UInt8)).take 127).map B) := hS9
      have hs9 := snd_bad _ _ _ hS9 (by decide) (odd_bad _ (by decide))
      clear hzs hS9 hX7 hC8
      go_wp2_with (first
        | (go_at_call 12; (with_reducible refine (f1 _).mono ?_); rintro e w2 ⟨rfl, rfl⟩)
        | (go_at_call 12; (with_reducible refine (f2 _).mono ?_); rintro e w2 ⟨rfl, rfl⟩)
        | (go_at_call 12; (with_reducible refine (f3 _).mono ?_); rintro e w2 ⟨rfl, rfl⟩)
        | (go_at_call 18; (with_reducible refine hs9.mono ?_); rintro e w9 ⟨rfl, hC9⟩)
        | (go_at_call 18; (with_reducible refine (sn _).mono ?_); rintro e w10 ⟨rfl, hC10⟩))
      go_ret
      exact ⟨rfl, (hX9.tr hC9).tr hC10⟩
end Go.Proofs.Ytccpmbonipfmpaa
