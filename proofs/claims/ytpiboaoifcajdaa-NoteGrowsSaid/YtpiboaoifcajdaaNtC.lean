/- Decode of a note. -/
import Derived.Test.YtpiboaoifcajdaaNtB
import Derived.Test.YtpiboaoifcajdaaOctB
namespace Go.Proofs.Ytpiboaoifcajdaa
open Go.RowKit

theorem equalB_any (u v : Value) (xs ys : List UInt8) (w : World) (hS : Sl w u (xs.map B)) (hT : Sl w v (ys.map B)) : Calls Try.prog 37 #[u, v] w (fun e w' => e = .returned (.bool (decide (xs = ys))) ∧ w' = w) := by
  obtain ⟨ao, c, rfl, _⟩ := hS.form
  obtain ⟨bo, d, rfl, _⟩ := hT.form
  simp only [List.length_map] at hS hT ⊢
  have k1 := conv_sl hS
  have k2 := conv_sl hT
  obtain ⟨X, hX, hX2, _⟩ := str_name xs
  obtain ⟨Y, hY, hY2, _⟩ := str_name ys
  rw [hX] at k1
  rw [hY] at k2
  have HX := Lib.hid hX2
  have HY := Lib.hid hY2
  clear hX hX2 hY hY2 hS hT
  go_enter Try.func37, Try.ntmps37
  go_wp2
  go_ret
  refine ⟨?_, rfl⟩
  show Ending.returned (Value.bool (X.toList == Y.toList)) = _
  rw [HX.out, HY.out]
  by_cases h : xs = ys
  · rw [decide_eq_true h, h]; simp
  · rw [decide_eq_false h, beq_eq_false_iff_ne.2 h]

theorem rVal_lt (l : List UInt8) (s : Nat) (hs : s ≤ 8) : rVal l s < 2 ^ (8 * s) := by
  unfold rVal
  split
  · have hl : (l.take (s : Int).toNat).length ≤ s := by rw [List.length_take, Int.toNat_natCast]; omega
    exact Nat.lt_of_lt_of_le (wholeM_bound _ (by omega)).1 (Nat.pow_le_pow_right (by decide) (by omega))
  · exact Nat.pow_pos (by decide)

/-- What is read of bytes. -/
def rp1 (xs : List UInt8) : Nat := rPos (xs.drop 0) 1 0
def rp2 (xs : List UInt8) : Nat := rPos (xs.drop (rp1 xs)) 4 (rp1 xs)
def rp3 (xs : List UInt8) : Nat := rPos (xs.drop (rp2 xs)) 4 (rp2 xs)
def rK (xs : List UInt8) : Nat := rVal (xs.drop 0) 1
def rA (xs : List UInt8) : Nat := rVal (xs.drop (rp1 xs)) 4
def rB (xs : List UInt8) : Nat := rVal (xs.drop (rp2 xs)) 4
def rN (xs : List UInt8) : Int := IntKind.i64.wrap (rVal (xs.drop (rp3 xs)) 8 : Nat)
def decOk (xs : List UInt8) : Bool := mayB (rK xs) (rA xs) (rB xs) (rN xs) && decide (noteL (rK xs) (rA xs) (rB xs) (rN xs).toNat = xs)
def decV (xs : List UInt8) : Value := if decOk xs then noteV (rK xs) (rA xs) (rB xs) (rN xs) else noteV 0 0 0 0
def decE (xs : List UInt8) : Int := if decOk xs then 0 else 90
theorem set4_cells {w : World} {g : Nat} {z0 z1 z2 z3 : Value} (a b c d : Value) (h0 : w.cell? ⟨g, 0, none⟩ = some z0) (h1 : w.cell? ⟨g, 1, none⟩ = some z1) (h2 : w.cell? ⟨g, 2, none⟩ = some z2) (h3 : w.cell? ⟨g, 3, none⟩ = some z3) :
    (w.setCell ⟨g, 0, none⟩ a).cell? ⟨g, 0, none⟩ = some a ∧ ((w.setCell ⟨g, 0, none⟩ a).setCell ⟨g, 1, none⟩ b).cell? ⟨g, 1, none⟩ = some b ∧
    (((w.setCell ⟨g, 0, none⟩ a).setCell ⟨g, 1, none⟩ b).setCell ⟨g, 2, none⟩ c).cell? ⟨g, 2, none⟩ = some c ∧
    ((((w.setCell ⟨g, 0, none⟩ a).setCell ⟨g, 1, none⟩ b).setCell ⟨g, 2, none⟩ c).setCell ⟨g, 3, none⟩ d).cell? ⟨g, 3, none⟩ = some d := by
  refine ⟨World.cell?_setCell_same' _ _ _ (by rw [h0]; rfl), World.cell?_setCell_same' _ _ _ ?_, World.cell?_setCell_same' _ _ _ ?_, World.cell?_setCell_same' _ _ _ ?_⟩
  · rw [World.cell?_setCell_other _ _ _ _ (by simp), h1]; rfl
  · rw [World.cell?_setCell_other _ _ _ _ (by simp), World.cell?_setCell_other _ _ _ _ (by simp), h2]; rfl
  · rw [World.cell?_setCell_other _ _ _ _ (by simp), World.cell?_setCell_other _ _ _ _ (by simp), World.cell?_setCell_other _ _ _ _ (by simp), h3]; rfl

theorem dec_eq (xs : List UInt8) {k a b : Nat} {n : Int} (hk : rK xs = k) (ha : rA xs = a) (hb : rB xs = b) (hn : rN xs = n) :
    (mayB k a b n = false → decV xs = noteV 0 0 0 0 ∧ decE xs = 90) ∧ (¬ noteL k a b n.toNat = xs → decV xs = noteV 0 0 0 0 ∧ decE xs = 90) ∧ (mayB k a b n = true → noteL k a b n.toNat = xs → decV xs = noteV k a b n ∧ decE xs = 0) := by
  unfold decV decE decOk
  rw [hk, ha, hb, hn]
  refine ⟨fun h => ?_, fun h => ?_, fun h h2 => ?_⟩
  · rw [h]; exact ⟨rfl, rfl⟩
  · rw [decide_eq_false h, Bool.and_false]; exact ⟨rfl, rfl⟩
  · rw [h, decide_eq_true h2]; exact ⟨rfl, rfl⟩
theorem enc_parts {k a b n : Int} : (mayB k a b n = false → encL k a b n = [] ∧ encE k a b n = 90) ∧ (mayB k a b n = true → encL k a b n = noteL k.toNat a.toNat b.toNat n.toNat ∧ encE k a b n = 0) := by
  unfold encL encE
  exact ⟨fun h => by rw [h]; exact ⟨rfl, rfl⟩, fun h => by rw [h]; exact ⟨rfl, rfl⟩⟩
set_option maxHeartbeats 2000000 in
theorem decode_any (u : Value) (xs : List UInt8) (w : World) (hS : Sl w u (xs.map B)) (hl : xs.length ≤ 140737488355328) :
    Calls Try.prog 11 #[u] w (fun e w' => e = .returned (.tuple #[decV xs, .int .i64 (decE xs)]) ∧ Chg (fun _ => False) w w') := by
  have HS := Lib.hid hS
  have hA := (Chg.refl (fun _ => False) w).alloc (.cells #[.int .i64 0, .int .i64 0, .int .i64 0, .int .i64 0] 23)
  have hr := read_any u xs _ (hS.fr hA) hl
  clear hS
  have bk : rK xs < 2 ^ (8 * 1) := rVal_lt (xs.drop 0) 1 (by decide)
  have ba : rA xs < 2 ^ (8 * 4) := rVal_lt (xs.drop (rp1 xs)) 4 (by decide)
  have bb : rB xs < 2 ^ (8 * 4) := rVal_lt (xs.drop (rp2 xs)) 4 (by decide)
  obtain ⟨k, hk⟩ : ∃ k, rK xs = k := ⟨_, rfl⟩
  obtain ⟨a, ha⟩ : ∃ a, rA xs = a := ⟨_, rfl⟩
  obtain ⟨b, hb⟩ : ∃ b, rB xs = b := ⟨_, rfl⟩
  obtain ⟨n, hn⟩ : ∃ n, rN xs = n := ⟨_, rfl⟩
  have bn : n ≤ 9223372036854775807 := by rw [← hn]; unfold rN; rw [IntKind.wrap_i64]; omega
  have HD := Lib.hid (dec_eq xs hk ha hb hn)
  rw [hk] at bk
  rw [ha] at ba
  rw [hb] at bb
  have uk : IntKind.i64.wrap (k : Int) = k := by rw [IntKind.wrap_i64]; omega
  have ua : IntKind.i64.wrap (a : Int) = a := by rw [IntKind.wrap_i64]; omega
  have ub : IntKind.i64.wrap (b : Int) = b := by rw [IntKind.wrap_i64]; omega
  go_enter Try.func11, Try.ntmps11
  go_wp2_with fail
  refine hr.mono ?_
  clear hr
  rintro e w1 ⟨rb, rv, rfl, hrb, _, hR0, hC1⟩
  rw [World.size_alloc] at hrb
  have h1 : Calls Try.prog 35 #[.pointer (some ⟨rb, 0, none⟩), .int .i64 1] w1 (ReadPost w1 rb rv xs (.int .u64 (rK xs : Nat)) _ (rp1 xs)) := rnum_any 1 rb rv xs 0 w1 hR0
  rw [hk] at h1
  go_wp2_with fail
  refine h1.mono ?_
  clear h1
  rintro e w2 ⟨rfl, hR1, hC2⟩
  have h2 : Calls Try.prog 35 #[.pointer (some ⟨rb, 0, none⟩), .int .i64 4] w2 (ReadPost w2 rb rv xs (.int .u64 (rA xs : Nat)) _ (rp2 xs)) := rnum_any 4 rb rv xs _ w2 hR1
  rw [ha] at h2
  go_wp2_with fail
  refine h2.mono ?_
  clear h2
  rintro e w3 ⟨rfl, hR2, hC3⟩
  have h3 : Calls Try.prog 35 #[.pointer (some ⟨rb, 0, none⟩), .int .i64 4] w3 (ReadPost w3 rb rv xs (.int .u64 (rB xs : Nat)) _ (rp3 xs)) := rnum_any 4 rb rv xs _ w3 hR2
  rw [hb] at h3
  go_wp2_with fail
  refine h3.mono ?_
  clear h3
  rintro e w4 ⟨rfl, hR3, hC4⟩
  have h4 : Calls Try.prog 36 #[.pointer (some ⟨rb, 0, none⟩)] w4 (ReadPost w4 rb rv xs (.int .i64 (rN xs)) _ _) := rint_any rb rv xs _ w4 hR3
  rw [hn] at h4
  go_wp2_with fail
  refine h4.mono ?_
  clear h4
  rintro e w5 ⟨rfl, _, hC5⟩
  have hF5 : Chg (fun _ => False) (w.alloc (.cells #[.int .i64 0, .int .i64 0, .int .i64 0, .int .i64 0] 23)) w5 :=
    hC1.trans (((hC2.same hC3).same hC4).same hC5) (fun _ _ h => h) (fun i hi h => by simp at hi; omega)
  have y0 : w5.cell? ⟨w.heap.size, 0, none⟩ = some (.int .i64 0) := hF5.cell (new_cell w _ _ rfl) id
  have y1 : w5.cell? ⟨w.heap.size, 1, none⟩ = some (.int .i64 0) := hF5.cell (new_cell w _ _ rfl) id
  have y2 : w5.cell? ⟨w.heap.size, 2, none⟩ = some (.int .i64 0) := hF5.cell (new_cell w _ _ rfl) id
  have y3 : w5.cell? ⟨w.heap.size, 3, none⟩ = some (.int .i64 0) := hF5.cell (new_cell w _ _ rfl) id
  have x0 : w5.frozen? ⟨w.heap.size, 0, none⟩ = false := hF5.frozen (new_cell w #[.int .i64 0, .int .i64 0, .int .i64 0, .int .i64 0] _ (i := 0) rfl) (new_frozen w _ _ _) id
  have x1 : w5.frozen? ⟨w.heap.size, 1, none⟩ = false := hF5.frozen (new_cell w #[.int .i64 0, .int .i64 0, .int .i64 0, .int .i64 0] _ (i := 1) rfl) (new_frozen w _ _ _) id
  have x2 : w5.frozen? ⟨w.heap.size, 2, none⟩ = false := hF5.frozen (new_cell w #[.int .i64 0, .int .i64 0, .int .i64 0, .int .i64 0] _ (i := 2) rfl) (new_frozen w _ _ _) id
  have x3 : w5.frozen? ⟨w.heap.size, 3, none⟩ = false := hF5.frozen (new_cell w #[.int .i64 0, .int .i64 0, .int .i64 0, .int .i64 0] _ (i := 3) rfl) (new_frozen w _ _ _) id
  have hF := hA.tr hF5
  have he := encode_any k a b n bn
  unfold noteV at he
  clear hR0 hR1 hR2 hR3 hC1 hC2 hC3 hC4 hC5 hF5 hA hrb hk ha hb hn bk ba bb
  obtain ⟨p1, p2⟩ := @enc_parts k a b n
  cases hm : mayB k a b n with
  | false =>
    obtain ⟨e1, e2⟩ := HD.out.1 hm
    rw [(p1 hm).1, (p1 hm).2] at he
    clear p1 p2 HD hm
    go_wp2_with fail
    refine (he _).mono ?_
    clear he
    rintro e w7 ⟨v7, rfl, ho7, hC7⟩
    have hX := ((Chg.refl (fun _ => False) w5).alloc (.cells #[.int .i64 (k : Int), .int .i64 (a : Int), .int .i64 (b : Int), .int .i64 n] 23)).tr hC7
    have z0 := hX.cell y0 id
    have z1 := hX.cell y1 id
    have z2 := hX.cell y2 id
    have z3 := hX.cell y3 id
    have f0 := hX.frozen y0 x0 id
    have f1 := hX.frozen y1 x1 id
    have f2 := hX.frozen y2 x2 id
    have f3 := hX.frozen y3 x3 id
    have m0 : w7.cell? ⟨w5.heap.size, 0, none⟩ = some (.int .i64 (k : Int)) := hC7.cell (new_cell w5 _ _ rfl) id
    have m1 : w7.cell? ⟨w5.heap.size, 1, none⟩ = some (.int .i64 (a : Int)) := hC7.cell (new_cell w5 _ _ rfl) id
    have m2 : w7.cell? ⟨w5.heap.size, 2, none⟩ = some (.int .i64 (b : Int)) := hC7.cell (new_cell w5 _ _ rfl) id
    have m3 : w7.cell? ⟨w5.heap.size, 3, none⟩ = some (.int .i64 n) := hC7.cell (new_cell w5 _ _ rfl) id
    replace hF := hF.tr hX
    clear y0 y1 y2 y3 x0 x1 x2 x3 hX hC7
    obtain ⟨g0, g1, g2, g3⟩ := set4_cells (.int .i64 0) (.int .i64 0) (.int .i64 0) (.int .i64 0) z0 z1 z2 z3
    go_wp2
    rw [e1, e2]
    simp [bodyPost, results, Try.results11, go_sem, g0, g1, g2, g3, noteV]
    exact ((((hF).setCell (p := ⟨w.heap.size, 0, none⟩) (.inr (Nat.le_refl _)) _).setCell (p := ⟨w.heap.size, 1, none⟩) (.inr (Nat.le_refl _)) _).setCell (p := ⟨w.heap.size, 2, none⟩) (.inr (Nat.le_refl _)) _).setCell (p := ⟨w.heap.size, 3, none⟩) (.inr (Nat.le_refl _)) _
  | true =>
    rw [(p2 hm).1, (p2 hm).2, Int.toNat_natCast, Int.toNat_natCast, Int.toNat_natCast] at he
    clear p1 p2
    obtain ⟨_, q2, q3⟩ := HD.out
    go_wp2_with fail
    refine (he _).mono ?_
    clear he
    rintro e w7 ⟨v7, rfl, ho7, hC7⟩
    have hX := ((Chg.refl (fun _ => False) w5).alloc (.cells #[.int .i64 (k : Int), .int .i64 (a : Int), .int .i64 (b : Int), .int .i64 n] 23)).tr hC7
    have z0 := hX.cell y0 id
    have z1 := hX.cell y1 id
    have z2 := hX.cell y2 id
    have z3 := hX.cell y3 id
    have f0 := hX.frozen y0 x0 id
    have f1 := hX.frozen y1 x1 id
    have f2 := hX.frozen y2 x2 id
    have f3 := hX.frozen y3 x3 id
    have m0 : w7.cell? ⟨w5.heap.size, 0, none⟩ = some (.int .i64 (k : Int)) := hC7.cell (new_cell w5 _ _ rfl) id
    have m1 : w7.cell? ⟨w5.heap.size, 1, none⟩ = some (.int .i64 (a : Int)) := hC7.cell (new_cell w5 _ _ rfl) id
    have m2 : w7.cell? ⟨w5.heap.size, 2, none⟩ = some (.int .i64 (b : Int)) := hC7.cell (new_cell w5 _ _ rfl) id
    have m3 : w7.cell? ⟨w5.heap.size, 3, none⟩ = some (.int .i64 n) := hC7.cell (new_cell w5 _ _ rfl) id
    replace hF := hF.tr hX
    clear y0 y1 y2 y3 x0 x1 x2 x3 hX hC7
    have hq := equalB_any v7 u (noteL k a b n.toNat) xs w7 (Sl.of_owns ho7) (HS.out.fr hF)
    by_cases heq : noteL k a b n.toNat = xs
    · obtain ⟨e1, e2⟩ := q3 hm heq
      rw [decide_eq_true heq] at hq
      clear heq q2 q3 hm HD
      go_wp2_with fail
      refine hq.mono ?_
      clear hq
      rintro e w8 ⟨rfl, rfl⟩
      obtain ⟨g0, g1, g2, g3⟩ := set4_cells (.int .i64 (k : Int)) (.int .i64 (a : Int)) (.int .i64 (b : Int)) (.int .i64 n) z0 z1 z2 z3
      go_wp2
      rw [e1, e2]
      simp [bodyPost, results, Try.results11, go_sem, g0, g1, g2, g3, noteV]
      exact ((((hF).setCell (p := ⟨w.heap.size, 0, none⟩) (.inr (Nat.le_refl _)) _).setCell (p := ⟨w.heap.size, 1, none⟩) (.inr (Nat.le_refl _)) _).setCell (p := ⟨w.heap.size, 2, none⟩) (.inr (Nat.le_refl _)) _).setCell (p := ⟨w.heap.size, 3, none⟩) (.inr (Nat.le_refl _)) _
    · obtain ⟨e1, e2⟩ := q2 heq
      rw [decide_eq_false heq] at hq
      clear heq q2 q3 hm HD
      go_wp2_with fail
      refine hq.mono ?_
      clear hq
      rintro e w8 ⟨rfl, rfl⟩
      obtain ⟨g0, g1, g2, g3⟩ := set4_cells (.int .i64 0) (.int .i64 0) (.int .i64 0) (.int .i64 0) z0 z1 z2 z3
      go_wp2
      rw [e1, e2]
      simp [bodyPost, results, Try.results11, go_sem, g0, g1, g2, g3, noteV]
      exact ((((hF).setCell (p := ⟨w.heap.size, 0, none⟩) (.inr (Nat.le_refl _)) _).setCell (p := ⟨w.heap.size, 1, none⟩) (.inr (Nat.le_refl _)) _).setCell (p := ⟨w.heap.size, 2, none⟩) (.inr (Nat.le_refl _)) _).setCell (p := ⟨w.heap.size, 3, none⟩) (.inr (Nat.le_refl _)) _
end Go.Proofs.Ytpiboaoifcajdaa
