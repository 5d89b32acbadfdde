/- The document's Decode of a note. -/
import Derived.Test.YtpiboaoifcajdaaNtS
namespace Go.Proofs.Ytpiboaoifcajdaa
open Go.RowKit

theorem r9dec_short (ao : Option Addr) (c L : Nat) (xs : List UInt8) (w : World) (e1 : decV xs = noteV 0 0 0 0) (e2 : decE xs = 90) (hL : ¬ L = 17) :
    Calls Try.prog 12 #[.slice ao L c] w (fun e w' => e = .returned (.tuple #[decV xs, .int .i64 (decE xs)]) ∧ Chg (fun _ => False) w w') := by
  go_enter Try.func12, Try.ntmps12
  go_wp2
  rw [e1, e2]
  simp [bodyPost, results, Try.results12, go_sem, noteV]
  exact (Chg.refl _ w).alloc _
set_option maxHeartbeats 4000000 in
theorem r9dec_long (ao : Option Addr) (c : Nat) (xs : List UInt8) (w : World) (hlen : xs.length = 17) (hS : Sl w (.slice ao 17 c) (xs.map B)) :
    Calls Try.prog 12 #[.slice ao 17 c] w (fun e w' => e = .returned (.tuple #[decV xs, .int .i64 (decE xs)]) ∧ Chg (fun _ => False) w w') := by
  have hA := (Chg.refl (fun _ => False) w).alloc (.cells #[.int .i64 0, .int .i64 0, .int .i64 0, .int .i64 0] 23)
  have hSd := hS.fr hA.drew
  obtain ⟨a1, d1, hS1, _, hcut1, _, _⟩ := hSd.slice 24 5 Try.underlying24 sizeOf_u8 1 5 (by decide) (by rw [List.length_map]; omega)
  obtain ⟨a2, d2, hS2, _, hcut2, _, _⟩ := hSd.slice 24 5 Try.underlying24 sizeOf_u8 5 9 (by decide) (by rw [List.length_map]; omega)
  obtain ⟨a3, d3, hS3, _, hcut3, _, _⟩ := hSd.slice 24 5 Try.underlying24 sizeOf_u8 9 17 (by decide) (by rw [List.length_map]; omega)
  rw [← List.map_take, ← List.map_drop] at hS1 hS2 hS3
  replace hS1 : Sl _ (.slice a1 4 d1) _ := hS1
  replace hS2 : Sl _ (.slice a2 4 d2) _ := hS2
  replace hS3 : Sl _ (.slice a3 8 d3) _ := hS3
  replace hcut1 : ∀ W, (Instr.slice 24 (.slice ao 17 c) (some (.int .i64 1)) (some (.int .i64 5)) none).run Try.prog W = .ok (.slice a1 4 d1) W := hcut1
  replace hcut2 : ∀ W, (Instr.slice 24 (.slice ao 17 c) (some (.int .i64 5)) (some (.int .i64 9)) none).run Try.prog W = .ok (.slice a2 4 d2) W := hcut2
  replace hcut3 : ∀ W, (Instr.slice 24 (.slice ao 17 c) (some (.int .i64 9)) (some (.int .i64 17)) none).run Try.prog W = .ok (.slice a3 8 d3) W := hcut3
  obtain ⟨hk, ha, hb, hn⟩ := read17 xs hlen
  have bk : rK xs < 2 ^ (8 * 1) := rVal_lt (xs.drop 0) 1 (by decide)
  have ba : rA xs < 2 ^ (8 * 4) := rVal_lt (xs.drop (rp1 xs)) 4 (by decide)
  have bb : rB xs < 2 ^ (8 * 4) := rVal_lt (xs.drop (rp2 xs)) 4 (by decide)
  have q1 := fun w' (h : Chg (fun _ => False) _ w') => refWhole_any _ ((xs.take 5).drop 1) w' (hS1.fr h) (by simp; omega)
  have q2 := fun w' (h : Chg (fun _ => False) _ w') => refWhole_any _ ((xs.take 9).drop 5) w' (hS2.fr h) (by simp; omega)
  have q3 := fun w' (h : Chg (fun _ => False) _ w') => refWhole_any _ ((xs.take 17).drop 9) w' (hS3.fr h) (by simp; omega)
  rw [← ha] at q1
  rw [← hb] at q2
  obtain ⟨x0, hx0⟩ : ∃ x0, xs[0]? = some x0 := ⟨_, List.getElem?_eq_getElem (by omega)⟩
  have hk0 : rK xs = x0.toNat := by
    rw [hk, show xs.take 1 = [x0] by cases xs with | nil => cases hx0 | cons y l => cases hx0; rfl]
    unfold wholeM
    simp
  obtain ⟨bk0, ok0, c0, e0, hc0⟩ := hSd.cells 0 (B x0) (by rw [List.getElem?_map, hx0]; rfl)
  injection e0 with e0 e01 e02
  clear e01 e02
  subst e0
  rw [Nat.add_zero] at hc0
  unfold B at hc0
  rw [← hk0] at hc0
  obtain ⟨N, hN⟩ : ∃ N, wholeM ((xs.take 17).drop 9) = N := ⟨_, rfl⟩
  rw [hN] at q3 hn
  obtain ⟨k, hk'⟩ : ∃ k, rK xs = k := ⟨_, rfl⟩
  obtain ⟨a, ha'⟩ : ∃ a, rA xs = a := ⟨_, rfl⟩
  obtain ⟨b, hb'⟩ : ∃ b, rB xs = b := ⟨_, rfl⟩
  obtain ⟨n, hn'⟩ : ∃ n, rN xs = n := ⟨_, rfl⟩
  have HD := Lib.hid (dec_eq xs hk' ha' hb' hn')
  have bn : n ≤ 9223372036854775807 := by rw [← hn']; unfold rN; rw [IntKind.wrap_i64]; omega
  rw [hk'] at bk hc0
  rw [ha'] at ba q1
  rw [hb'] at bb q2
  rw [hn'] at hn
  have uk : IntKind.i64.wrap (k : Int) = k := by rw [IntKind.wrap_i64]; omega
  have ua : IntKind.i64.wrap (a : Int) = a := by rw [IntKind.wrap_i64]; omega
  have ub : IntKind.i64.wrap (b : Int) = b := by rw [IntKind.wrap_i64]; omega
  have un : IntKind.i64.wrap (N : Int) = n := hn.symm
  have HS := Lib.hid hS
  have he := r9enc_any k a b n bn
  unfold noteV at he
  clear hS hSd hA hS1 hS2 hS3 hlen hk ha hb hn hk' ha' hb' hn' hx0 hk0 hN bk ba bb
  have hUD : ∀ o, Chg (fun _ => False) (w.alloc (.cells #[.int .i64 0, .int .i64 0, .int .i64 0, .int .i64 0] 23)).drew ((w.alloc (.cells #[.int .i64 0, .int .i64 0, .int .i64 0, .int .i64 0] 23)).alloc o).drew := fun o => ⟨rfl, rfl, rfl, ((Chg.refl (fun _ => False) (w.alloc (.cells #[.int .i64 0, .int .i64 0, .int .i64 0, .int .i64 0] 23))).alloc o).size, ((Chg.refl (fun _ => False) (w.alloc (.cells #[.int .i64 0, .int .i64 0, .int .i64 0, .int .i64 0] 23))).alloc o).block⟩
  go_enter Try.func12, Try.ntmps12
  go_wp2_with fail
  go_region_held3 (fun w' => Chg (fun _ => False) (w.alloc (.cells #[.int .i64 0, .int .i64 0, .int .i64 0, .int .i64 0] 23)).drew w' ∧ w'.cell? ⟨bk0, ok0, none⟩ = some (.int .u8 (k : Int))) (first | exact ⟨Chg.refl _ _, hc0⟩ | exact ⟨hUD _, alloc_cell hc0 _⟩)
    (first
      | (go_at_call 38; (with_reducible refine (q1 _ (Chg.refl _ _)).mono ?_); rintro e w1 ⟨rfl, rfl⟩)
      | (go_at_call 38; (with_reducible refine (q2 _ (Chg.refl _ _)).mono ?_); rintro e w1 ⟨rfl, rfl⟩)
      | (go_at_call 38; (with_reducible refine (q3 _ (Chg.refl _ _)).mono ?_); rintro e w1 ⟨rfl, rfl⟩)
      | (go_at_call 38; (with_reducible refine (q1 _ (hUD _)).mono ?_); rintro e w1 ⟨rfl, rfl⟩)
      | (go_at_call 38; (with_reducible refine (q2 _ (hUD _)).mono ?_); rintro e w1 ⟨rfl, rfl⟩)
      | (go_at_call 38; (with_reducible refine (q3 _ (hUD _)).mono ?_); rintro e w1 ⟨rfl, rfl⟩))
  all_goals
    obtain ⟨p1, p2⟩ := @enc_parts k a b n
    cases hm : mayB k a b n with
    | false =>
      obtain ⟨e1, e2⟩ := HD.out.1 hm
      rw [(p1 hm).1, (p1 hm).2] at he
      clear p1 p2 HD hm
      go_wp2_with fail
      refine (he _).mono ?_
      clear he
      rintro e w7 ⟨v7, rfl, ho7, hC7⟩
      have z0 := hC7.cell (alloc_cell (new_cell w #[.int .i64 0, .int .i64 0, .int .i64 0, .int .i64 0] 23 (i := 0) rfl) (.cells #[.int .i64 (k : Int), .int .i64 (a : Int), .int .i64 (b : Int), .int .i64 n] 23)) id
      have z1 := hC7.cell (alloc_cell (new_cell w #[.int .i64 0, .int .i64 0, .int .i64 0, .int .i64 0] 23 (i := 1) rfl) (.cells #[.int .i64 (k : Int), .int .i64 (a : Int), .int .i64 (b : Int), .int .i64 n] 23)) id
      have z2 := hC7.cell (alloc_cell (new_cell w #[.int .i64 0, .int .i64 0, .int .i64 0, .int .i64 0] 23 (i := 2) rfl) (.cells #[.int .i64 (k : Int), .int .i64 (a : Int), .int .i64 (b : Int), .int .i64 n] 23)) id
      have z3 := hC7.cell (alloc_cell (new_cell w #[.int .i64 0, .int .i64 0, .int .i64 0, .int .i64 0] 23 (i := 3) rfl) (.cells #[.int .i64 (k : Int), .int .i64 (a : Int), .int .i64 (b : Int), .int .i64 n] 23)) id
      have f0 : w7.frozen? ⟨w.heap.size, 0, none⟩ = false := hC7.frozen (alloc_cell (new_cell w #[.int .i64 0, .int .i64 0, .int .i64 0, .int .i64 0] 23 (i := 0) rfl) (.cells #[.int .i64 (k : Int), .int .i64 (a : Int), .int .i64 (b : Int), .int .i64 n] 23)) (alloc_frozen (new_cell w #[.int .i64 0, .int .i64 0, .int .i64 0, .int .i64 0] 23 (i := 0) rfl) (new_frozen _ _ _ _) _) id
      have f1 : w7.frozen? ⟨w.heap.size, 1, none⟩ = false := hC7.frozen (alloc_cell (new_cell w #[.int .i64 0, .int .i64 0, .int .i64 0, .int .i64 0] 23 (i := 1) rfl) (.cells #[.int .i64 (k : Int), .int .i64 (a : Int), .int .i64 (b : Int), .int .i64 n] 23)) (alloc_frozen (new_cell w #[.int .i64 0, .int .i64 0, .int .i64 0, .int .i64 0] 23 (i := 1) rfl) (new_frozen _ _ _ _) _) id
      have f2 : w7.frozen? ⟨w.heap.size, 2, none⟩ = false := hC7.frozen (alloc_cell (new_cell w #[.int .i64 0, .int .i64 0, .int .i64 0, .int .i64 0] 23 (i := 2) rfl) (.cells #[.int .i64 (k : Int), .int .i64 (a : Int), .int .i64 (b : Int), .int .i64 n] 23)) (alloc_frozen (new_cell w #[.int .i64 0, .int .i64 0, .int .i64 0, .int .i64 0] 23 (i := 2) rfl) (new_frozen _ _ _ _) _) id
      have f3 : w7.frozen? ⟨w.heap.size, 3, none⟩ = false := hC7.frozen (alloc_cell (new_cell w #[.int .i64 0, .int .i64 0, .int .i64 0, .int .i64 0] 23 (i := 3) rfl) (.cells #[.int .i64 (k : Int), .int .i64 (a : Int), .int .i64 (b : Int), .int .i64 n] 23)) (alloc_frozen (new_cell w #[.int .i64 0, .int .i64 0, .int .i64 0, .int .i64 0] 23 (i := 3) rfl) (new_frozen _ _ _ _) _) id
      have m0 : w7.cell? ⟨w.heap.size + 1, 0, none⟩ = some (.int .i64 (k : Int)) := hC7.cell (by have := new_cell (w.alloc (.cells #[.int .i64 0, .int .i64 0, .int .i64 0, .int .i64 0] 23)) #[.int .i64 (k : Int), .int .i64 (a : Int), .int .i64 (b : Int), .int .i64 n] 23 (i := 0) rfl; rw [World.size_alloc] at this; exact this) id
      have m1 : w7.cell? ⟨w.heap.size + 1, 1, none⟩ = some (.int .i64 (a : Int)) := hC7.cell (by have := new_cell (w.alloc (.cells #[.int .i64 0, .int .i64 0, .int .i64 0, .int .i64 0] 23)) #[.int .i64 (k : Int), .int .i64 (a : Int), .int .i64 (b : Int), .int .i64 n] 23 (i := 1) rfl; rw [World.size_alloc] at this; exact this) id
      have m2 : w7.cell? ⟨w.heap.size + 1, 2, none⟩ = some (.int .i64 (b : Int)) := hC7.cell (by have := new_cell (w.alloc (.cells #[.int .i64 0, .int .i64 0, .int .i64 0, .int .i64 0] 23)) #[.int .i64 (k : Int), .int .i64 (a : Int), .int .i64 (b : Int), .int .i64 n] 23 (i := 2) rfl; rw [World.size_alloc] at this; exact this) id
      have m3 : w7.cell? ⟨w.heap.size + 1, 3, none⟩ = some (.int .i64 n) := hC7.cell (by have := new_cell (w.alloc (.cells #[.int .i64 0, .int .i64 0, .int .i64 0, .int .i64 0] 23)) #[.int .i64 (k : Int), .int .i64 (a : Int), .int .i64 (b : Int), .int .i64 n] 23 (i := 3) rfl; rw [World.size_alloc] at this; exact this) id
      have hF : Chg (fun _ => False) w w7 := ((((Chg.refl _ w).alloc _).alloc _).drew).tr hC7
      clear hC7
      obtain ⟨g0, g1, g2, g3⟩ := set4_cells (.int .i64 0) (.int .i64 0) (.int .i64 0) (.int .i64 0) z0 z1 z2 z3
      go_wp2
      rw [e1, e2]
      simp [bodyPost, results, Try.results12, go_sem, g0, g1, g2, g3, noteV]
      exact ((((hF).setCell (p := ⟨w.heap.size, 0, none⟩) (.inr (Nat.le_refl _)) _).setCell (p := ⟨w.heap.size, 1, none⟩) (.inr (Nat.le_refl _)) _).setCell (p := ⟨w.heap.size, 2, none⟩) (.inr (Nat.le_refl _)) _).setCell (p := ⟨w.heap.size, 3, none⟩) (.inr (Nat.le_refl _)) _
    | true =>
      rw [(p2 hm).1, (p2 hm).2, Int.toNat_natCast, Int.toNat_natCast, Int.toNat_natCast] at he
      clear p1 p2
      obtain ⟨_, q4, q5⟩ := HD.out
      go_wp2_with fail
      refine (he _).mono ?_
      clear he
      rintro e w7 ⟨v7, rfl, ho7, hC7⟩
      have z0 := hC7.cell (alloc_cell (new_cell w #[.int .i64 0, .int .i64 0, .int .i64 0, .int .i64 0] 23 (i := 0) rfl) (.cells #[.int .i64 (k : Int), .int .i64 (a : Int), .int .i64 (b : Int), .int .i64 n] 23)) id
      have z1 := hC7.cell (alloc_cell (new_cell w #[.int .i64 0, .int .i64 0, .int .i64 0, .int .i64 0] 23 (i := 1) rfl) (.cells #[.int .i64 (k : Int), .int .i64 (a : Int), .int .i64 (b : Int), .int .i64 n] 23)) id
      have z2 := hC7.cell (alloc_cell (new_cell w #[.int .i64 0, .int .i64 0, .int .i64 0, .int .i64 0] 23 (i := 2) rfl) (.cells #[.int .i64 (k : Int), .int .i64 (a : Int), .int .i64 (b : Int), .int .i64 n] 23)) id
      have z3 := hC7.cell (alloc_cell (new_cell w #[.int .i64 0, .int .i64 0, .int .i64 0, .int .i64 0] 23 (i := 3) rfl) (.cells #[.int .i64 (k : Int), .int .i64 (a : Int), .int .i64 (b : Int), .int .i64 n] 23)) id
      have f0 : w7.frozen? ⟨w.heap.size, 0, none⟩ = false := hC7.frozen (alloc_cell (new_cell w #[.int .i64 0, .int .i64 0, .int .i64 0, .int .i64 0] 23 (i := 0) rfl) (.cells #[.int .i64 (k : Int), .int .i64 (a : Int), .int .i64 (b : Int), .int .i64 n] 23)) (alloc_frozen (new_cell w #[.int .i64 0, .int .i64 0, .int .i64 0, .int .i64 0] 23 (i := 0) rfl) (new_frozen _ _ _ _) _) id
      have f1 : w7.frozen? ⟨w.heap.size, 1, none⟩ = false := hC7.frozen (alloc_cell (new_cell w #[.int .i64 0, .int .i64 0, .int .i64 0, .int .i64 0] 23 (i := 1) rfl) (.cells #[.int .i64 (k : Int), .int .i64 (a : Int), .int .i64 (b : Int), .int .i64 n] 23)) (alloc_frozen (new_cell w #[.int .i64 0, .int .i64 0, .int .i64 0, .int .i64 0] 23 (i := 1) rfl) (new_frozen _ _ _ _) _) id
      have f2 : w7.frozen? ⟨w.heap.size, 2, none⟩ = false := hC7.frozen (alloc_cell (new_cell w #[.int .i64 0, .int .i64 0, .int .i64 0, .int .i64 0] 23 (i := 2) rfl) (.cells #[.int .i64 (k : Int), .int .i64 (a : Int), .int .i64 (b : Int), .int .i64 n] 23)) (alloc_frozen (new_cell w #[.int .i64 0, .int .i64 0, .int .i64 0, .int .i64 0] 23 (i := 2) rfl) (new_frozen _ _ _ _) _) id
      have f3 : w7.frozen? ⟨w.heap.size, 3, none⟩ = false := hC7.frozen (alloc_cell (new_cell w #[.int .i64 0, .int .i64 0, .int .i64 0, .int .i64 0] 23 (i := 3) rfl) (.cells #[.int .i64 (k : Int), .int .i64 (a : Int), .int .i64 (b : Int), .int .i64 n] 23)) (alloc_frozen (new_cell w #[.int .i64 0, .int .i64 0, .int .i64 0, .int .i64 0] 23 (i := 3) rfl) (new_frozen _ _ _ _) _) id
      have m0 : w7.cell? ⟨w.heap.size + 1, 0, none⟩ = some (.int .i64 (k : Int)) := hC7.cell (by have := new_cell (w.alloc (.cells #[.int .i64 0, .int .i64 0, .int .i64 0, .int .i64 0] 23)) #[.int .i64 (k : Int), .int .i64 (a : Int), .int .i64 (b : Int), .int .i64 n] 23 (i := 0) rfl; rw [World.size_alloc] at this; exact this) id
      have m1 : w7.cell? ⟨w.heap.size + 1, 1, none⟩ = some (.int .i64 (a : Int)) := hC7.cell (by have := new_cell (w.alloc (.cells #[.int .i64 0, .int .i64 0, .int .i64 0, .int .i64 0] 23)) #[.int .i64 (k : Int), .int .i64 (a : Int), .int .i64 (b : Int), .int .i64 n] 23 (i := 1) rfl; rw [World.size_alloc] at this; exact this) id
      have m2 : w7.cell? ⟨w.heap.size + 1, 2, none⟩ = some (.int .i64 (b : Int)) := hC7.cell (by have := new_cell (w.alloc (.cells #[.int .i64 0, .int .i64 0, .int .i64 0, .int .i64 0] 23)) #[.int .i64 (k : Int), .int .i64 (a : Int), .int .i64 (b : Int), .int .i64 n] 23 (i := 2) rfl; rw [World.size_alloc] at this; exact this) id
      have m3 : w7.cell? ⟨w.heap.size + 1, 3, none⟩ = some (.int .i64 n) := hC7.cell (by have := new_cell (w.alloc (.cells #[.int .i64 0, .int .i64 0, .int .i64 0, .int .i64 0] 23)) #[.int .i64 (k : Int), .int .i64 (a : Int), .int .i64 (b : Int), .int .i64 n] 23 (i := 3) rfl; rw [World.size_alloc] at this; exact this) id
      have hF : Chg (fun _ => False) w w7 := ((((Chg.refl _ w).alloc _).alloc _).drew).tr hC7
      clear hC7
      have k1 := conv_sl (Sl.of_owns ho7)
      have k2 := conv_sl (HS.out.fr hF)
      obtain ⟨X, hX, hX2, hX3⟩ := str_name (noteL k a b n.toNat)
      obtain ⟨Y, hY, hY2, hY3⟩ := str_name xs
      by_cases heq : noteL k a b n.toNat = xs
      · obtain ⟨e1, e2⟩ := q5 hm heq
        rw [heq, hY] at k1
        rw [hY] at k2
        clear heq q4 q5 hm HD hX hX2 hY hY2 hX3 hY3 ho7
        obtain ⟨g0, g1, g2, g3⟩ := set4_cells (.int .i64 (k : Int)) (.int .i64 (a : Int)) (.int .i64 (b : Int)) (.int .i64 n) z0 z1 z2 z3
        go_wp2
        rw [e1, e2]
        simp [bodyPost, results, Try.results12, go_sem, g0, g1, g2, g3, noteV]
        exact ((((hF).setCell (p := ⟨w.heap.size, 0, none⟩) (.inr (Nat.le_refl _)) _).setCell (p := ⟨w.heap.size, 1, none⟩) (.inr (Nat.le_refl _)) _).setCell (p := ⟨w.heap.size, 2, none⟩) (.inr (Nat.le_refl _)) _).setCell (p := ⟨w.heap.size, 3, none⟩) (.inr (Nat.le_refl _)) _
      · obtain ⟨e1, e2⟩ := q4 heq
        rw [hX] at k1
        rw [hY] at k2
        have hne : (X.toList == Y.toList) = false := by rw [hX2, hY2]; exact beq_eq_false_iff_ne.2 heq
        clear heq q4 q5 hm HD hX hX2 hY hY2 hX3 hY3 ho7
        obtain ⟨g0, g1, g2, g3⟩ := set4_cells (.int .i64 0) (.int .i64 0) (.int .i64 0) (.int .i64 0) z0 z1 z2 z3
        go_wp2
        rw [e1, e2]
        simp [bodyPost, results, Try.results12, go_sem, g0, g1, g2, g3, noteV]
        exact ((((hF).setCell (p := ⟨w.heap.size, 0, none⟩) (.inr (Nat.le_refl _)) _).setCell (p := ⟨w.heap.size, 1, none⟩) (.inr (Nat.le_refl _)) _).setCell (p := ⟨w.heap.size, 2, none⟩) (.inr (Nat.le_refl _)) _).setCell (p := ⟨w.heap.size, 3, none⟩) (.inr (Nat.le_refl _)) _
theorem r9dec_any (u : Value) (xs : List UInt8) (w : World) (hS : Sl w u (xs.map B)) :
    Calls Try.prog 12 #[u] w (fun e w' => e = .returned (.tuple #[decV xs, .int .i64 (decE xs)]) ∧ Chg (fun _ => False) w w') := by
  obtain ⟨ao, c, rfl, _⟩ := hS.form
  rw [List.length_map] at hS ⊢
  by_cases h : xs.length = 17
  · rw [h] at hS ⊢
    exact r9dec_long ao c xs w h hS
  · have hd := noteL_inj17 xs h
    exact r9dec_short ao c xs.length xs w (by unfold decV; rw [hd]; rfl) (by unfold decE; rw [hd]; rfl) h
end Go.Proofs.Ytpiboaoifcajdaa
