/- The document's Decode: bytes that are not sound; where many are too many. -/
import Derived.Test.YtccpmbonipfmpaaTlW
import Derived.Test.YtccpmbonipfmpaaTlV
import Derived.Test.YtccpmbonipfmpaaTlP
import Derived.StillTailTactics
import Derived.Deep.RegionHeld3
import Derived.Deep.CutRange
import Derived.Deep.CutBlock
namespace Go.Proofs.Ytccpmbonipfmpaa
open Go.RowKit

theorem r5dec_no (v : Value) (w : World) (hs : ∀ w', Chg (fun _ => False) w w' → Calls Try.prog 19 #[v] w' (GaveBo w' false)) : Calls Try.prog 17 #[v] w (GaveT w 0 0 0 [] 50) := by
  have hX1 : Chg (fun _ => False) w (w.alloc (.cells #[.int .i64 0, .int .i64 0, .int .i64 0, .slice none 0 0] 24)) := (Chg.refl _ w).alloc _
  have y : ∀ i v, (#[.int .i64 0, .int .i64 0, .int .i64 0, .slice none 0 0] : Array Value)[i]? = some v → (w.alloc (.cells #[.int .i64 0, .int .i64 0, .int .i64 0, .slice none 0 0] 24)).cell? ⟨w.heap.size, i, none⟩ = some v := fun i v h => new_cell w _ _ h
  have y0 := y 0 _ rfl
  have y1 := y 1 _ rfl
  have y2 := y 2 _ rfl
  have y3 := y 3 _ rfl
  have z : ∀ i, (w.alloc (.cells #[.int .i64 0, .int .i64 0, .int .i64 0, .slice none 0 0] 24)).frozen? ⟨w.heap.size, i, none⟩ = false := fun i => new_frozen w _ _ i
  have z0 := z 0
  have z1 := z 1
  have z2 := z 2
  have z3 := z 3
  clear y z
  go_enter Try.func17, Try.ntmps17
  go_wp2_with fail
  refine (hs _ hX1).mono ?_
  clear hs
  rintro e w1 ⟨rfl, hC1⟩
  replace z0 := hC1.frozen y0 z0 id
  replace z1 := hC1.frozen y1 z1 id
  replace z2 := hC1.frozen y2 z2 id
  replace z3 := hC1.frozen y3 z3 id
  replace y0 := hC1.cell y0 id
  replace y1 := hC1.cell y1 id
  replace y2 := hC1.cell y2 id
  replace y3 := hC1.cell y3 id
  obtain ⟨g0, g1, g2, g3⟩ := set4_cells (.int .i64 0) (.int .i64 0) (.int .i64 0) (.slice none 0 0) y0 y1 y2 y3
  go_wp2
  simp [bodyPost, results, Try.results17, go_sem, g0, g1, g2, g3]
  exact ⟨_, rfl, World.ownsRow_nil _ _ _ _, (((((hX1.tr hC1).setCell (p := ⟨w.heap.size, 0, none⟩) (.inr (Nat.le_refl _)) _).setCell (p := ⟨w.heap.size, 1, none⟩) (.inr (Nat.le_refl _)) _).setCell (p := ⟨w.heap.size, 2, none⟩) (.inr (Nat.le_refl _)) _).setCell (p := ⟨w.heap.size, 3, none⟩) (.inr (Nat.le_refl _)) _)⟩
/-- What the document reads of bytes that are long enough. -/
structure Reads5 (xs : List UInt8) (f : Int) (no k q : Nat) : Prop where
  f : IntKind.i64.wrap (wholeM ((xs.take 12).drop 4) : Nat) = f
  no : wholeM ((xs.take 16).drop 12) = no
  k : ∃ b, xs[3]? = some b ∧ b.toNat = k
  q : wholeM ((xs.take 20).drop 16) = q
def elemQ (xs : List UInt8) (j : Nat) : Int := IntKind.i64.wrap (wholeM ((xs.take (28 + 8 * j)).drop (20 + 8 * j)) : Nat)
def elemsQ (xs : List UInt8) (q : Nat) : List Int := (List.range q).map (elemQ xs)
theorem elemsQ_succ (xs : List UInt8) (j : Nat) : elemsQ xs (j + 1) = elemsQ xs j ++ [elemQ xs j] := by simp [elemsQ, List.range_succ]
theorem elemsQ_length (xs : List UInt8) (j : Nat) : (elemsQ xs j).length = j := by simp [elemsQ]
theorem leave5 {w W : World} {base : Nat} {F NO K E : Int} {v : Value} {L : List Int} (hown : W.ownsRow base 2 1 v L.length (L.map I)) (hb : w.heap.size + 1 ≤ base) (hW : Chg (fun _ => False) w W) :
    GaveT w F NO K L E (.returned (.tuple #[.agg #[.int .i64 F, .int .i64 NO, .int .i64 K, v], .int .i64 E])) ((((W.setCell ⟨w.heap.size, 0, none⟩ (.int .i64 F)).setCell ⟨w.heap.size, 1, none⟩ (.int .i64 NO)).setCell ⟨w.heap.size, 2, none⟩ (.int .i64 K)).setCell ⟨w.heap.size, 3, none⟩ v) := by
  refine ⟨v, rfl, ?_, ((((hW.setCell (p := ⟨w.heap.size, 0, none⟩) (.inr (Nat.le_refl _)) _).setCell (p := ⟨w.heap.size, 1, none⟩) (.inr (Nat.le_refl _)) _).setCell (p := ⟨w.heap.size, 2, none⟩) (.inr (Nat.le_refl _)) _).setCell (p := ⟨w.heap.size, 3, none⟩) (.inr (Nat.le_refl _)) _)⟩
  have h4 := ownsRow_setCell_below (ownsRow_setCell_below (ownsRow_setCell_below (ownsRow_setCell_below hown (a := ⟨w.heap.size, 0, none⟩) hb (.int .i64 F)) (a := ⟨w.heap.size, 1, none⟩) hb (.int .i64 NO)) (a := ⟨w.heap.size, 2, none⟩) hb (.int .i64 K)) (a := ⟨w.heap.size, 3, none⟩) hb v
  exact ⟨h4.1, h4.2.imp id fun ⟨g, cap, cur, hv, hg, r⟩ => ⟨g, cap, cur, hv, by omega, r⟩⟩
set_option maxRecDepth 100000 in
set_option maxHeartbeats 1000000 in
theorem r5dec_main (ao : Option Addr) (n c s no k q : Nat) (f F : Int) (xs : List UInt8) (w : World) (hS : Sl w (.slice ao n c) (xs.map B)) (hn : xs.length = n) (hl : xs.length + 100 ≤ 140737488355328) (h20 : 20 ≤ xs.length) (hw : wrap64 ((n : Int) / 128) = (s : Int)) (hrd : Reads5 xs f no k q) (bno : no < 4294967296) (bq : q < 4294967296)
    (hs : ∀ w', Chg (fun _ => False) w w' → Calls Try.prog 19 #[.slice ao n c] w' (GaveBo w' true)) (hfit : ∀ w, Calls Try.prog 13 #[.int .i64 s] w (fun e w' => e = .returned (.int .i64 F) ∧ w' = w)) (hq0 : (q : Int) ≤ F → 20 + 8 * q ≤ n)
    (EE FF NO K E : Int) (BB : List UInt8) (L : List Int) (hD : (F < (q : Int) ∧ FF = 0 ∧ NO = 0 ∧ K = 0 ∧ L = [] ∧ E = 50) ∨ ((q : Int) ≤ F ∧ DecS xs f (no : Int) (k : Int) (elemsQ xs q) L FF NO K E EE BB))
    (henc : ∀ w' v, Sl w' v ((elemsQ xs q).map I) → Calls Try.prog 10 #[.agg #[.int .i64 f, .int .i64 (no : Int), .int .i64 (k : Int), v], .int .i64 s] w' (GaveBE w' BB EE)) :
    Calls Try.prog 17 #[.slice ao n c] w (GaveT w FF NO K L E) := by
  obtain ⟨hf, hno, ⟨bk, hbk, hk⟩, hq⟩ := hrd
  have HS := Lib.hid hS
  have HN := Lib.hid (And.intro hn (And.intro hl h20))
  clear hS hn hl h20
  have hX1 : Chg (fun _ => False) w (w.alloc (.cells #[.int .i64 0, .int .i64 0, .int .i64 0, .slice none 0 0] 24)) := (Chg.refl _ w).alloc _
  have y : ∀ i v, (#[.int .i64 0, .int .i64 0, .int .i64 0, .slice none 0 0] : Array Value)[i]? = some v → (w.alloc (.cells #[.int .i64 0, .int .i64 0, .int .i64 0, .slice none 0 0] 24)).cell? ⟨w.heap.size, i, none⟩ = some v := fun i v h => new_cell w _ _ h
  have y0 := y 0 _ rfl
  have y1 := y 1 _ rfl
  have y2 := y 2 _ rfl
  have y3 := y 3 _ rfl
  have z : ∀ i, (w.alloc (.cells #[.int .i64 0, .int .i64 0, .int .i64 0, .slice none 0 0] 24)).frozen? ⟨w.heap.size, i, none⟩ = false := fun i => new_frozen w _ _ i
  have z0 := z 0
  have z1 := z 1
  have z2 := z 2
  have z3 := z 3
  clear y z
  have HDD := Lib.hid hD
  have HEN := Lib.hid henc
  have HQ0 := Lib.hid hq0
  clear hD henc hq0
  go_enter Try.func17, Try.ntmps17
  go_wp2_with fail
  refine (hs _ hX1).mono ?_
  clear hs
  rintro e w1 ⟨rfl, hC1⟩
  replace z0 := hC1.frozen y0 z0 id
  replace z1 := hC1.frozen y1 z1 id
  replace z2 := hC1.frozen y2 z2 id
  replace z3 := hC1.frozen y3 z3 id
  replace y0 := hC1.cell y0 id
  replace y1 := hC1.cell y1 id
  replace y2 := hC1.cell y2 id
  replace y3 := hC1.cell y3 id
  have wlt : w.heap.size + 1 ≤ w1.heap.size := by have := hC1.size; simp at this; omega
  have hSd := HS.out.fr (hX1.tr hC1).drew
  obtain ⟨a1, d1, hS1, _, hcut1, _, _⟩ := hSd.slice 25 5 Try.underlying25 sizeOf_u8 4 12 (by decide) (by have := HN.out; rw [List.length_map]; omega)
  obtain ⟨a2, d2, hS2, _, hcut2, _, _⟩ := hSd.slice 25 5 Try.underlying25 sizeOf_u8 12 16 (by decide) (by have := HN.out; rw [List.length_map]; omega)
  obtain ⟨a3, d3, hS3, _, hcut3, _, _⟩ := hSd.slice 25 5 Try.underlying25 sizeOf_u8 16 20 (by decide) (by have := HN.out; rw [List.length_map]; omega)
  rw [← List.map_take, ← List.map_drop] at hS1 hS2 hS3
  replace hcut1 : ∀ W, (Instr.slice 25 (.slice ao n c) (some (.int .i64 4)) (some (.int .i64 12)) none).run Try.prog W = .ok (.slice a1 8 d1) W := hcut1
  replace hcut2 : ∀ W, (Instr.slice 25 (.slice ao n c) (some (.int .i64 12)) (some (.int .i64 16)) none).run Try.prog W = .ok (.slice a2 4 d2) W := hcut2
  replace hcut3 : ∀ W, (Instr.slice 25 (.slice ao n c) (some (.int .i64 16)) (some (.int .i64 20)) none).run Try.prog W = .ok (.slice a3 4 d3) W := hcut3
  replace hS1 : Sl _ (.slice a1 8 d1) _ := hS1
  replace hS2 : Sl _ (.slice a2 4 d2) _ := hS2
  replace hS3 : Sl _ (.slice a3 4 d3) _ := hS3
  have q1 := fun w' (h : Chg (fun _ => False) w1.drew w') => refWhole_any _ ((xs.take 12).drop 4) w' (hS1.fr h) (by simp; omega)
  have q2 := fun w' (h : Chg (fun _ => False) w1.drew w') => refWhole_any _ ((xs.take 16).drop 12) w' (hS2.fr h) (by simp; omega)
  have q3 := fun w' (h : Chg (fun _ => False) w1.drew w') => refWhole_any _ ((xs.take 20).drop 16) w' (hS3.fr h) (by simp; omega)
  rw [hno] at q2
  rw [hq] at q3
  obtain ⟨N1, hN1⟩ : ∃ N, wholeM ((xs.take 12).drop 4) = N := ⟨_, rfl⟩
  rw [hN1] at q1 hf
  obtain ⟨b0, o0, c0, e0, hc0⟩ := hSd.cells 3 (B bk) (by rw [List.getElem?_map, hbk]; rfl)
  injection e0 with e0 e01 e02
  clear e01 e02
  subst e0
  unfold B at hc0
  have bkk : k < 256 := by rw [← hk]; exact bk.toNat_lt
  rw [hk] at hc0
  have hi3 : (3 : Int) < (n : Int) := by have := HN.out; omega
  have uno : IntKind.i64.wrap (no : Int) = no := by rw [IntKind.wrap_i64]; omega
  have uk : IntKind.i64.wrap (k : Int) = k := by rw [IntKind.wrap_i64]; omega
  have hUD : ∀ o, Chg (fun _ => False) w1.drew (w1.alloc o).drew := fun o => ⟨rfl, rfl, rfl, ((Chg.refl (fun _ => False) w1).alloc o).size, ((Chg.refl (fun _ => False) w1).alloc o).block⟩
  clear hS1 hS2 hSd hno hN1 hbk hk hq
  go_upto_region 4 with fail
  go_cut [5] from 15 to 27 (fun t wx => t = .pointer (some ⟨w1.heap.size, 0, none⟩) ∧ wx = (w1.alloc (.cells #[.int .i64 f, .int .i64 (no : Int), .int .i64 (k : Int), .slice none 0 0] 24)).drew)
  case first =>
   go_region_held3 (fun w' => Chg (fun _ => False) w1.drew w' ∧ w'.cell? ⟨b0, o0 + 3, none⟩ = some (.int .u8 (k : Int))) (first | exact ⟨Chg.refl _ _, hc0⟩ | exact ⟨hUD _, alloc_cell hc0 _⟩)
      (first
        | (go_at_call 40; (with_reducible refine (q1 _ (Chg.refl _ _)).mono ?_); rintro e w1 ⟨rfl, rfl⟩)
        | (go_at_call 40; (with_reducible refine (q2 _ (Chg.refl _ _)).mono ?_); rintro e w1 ⟨rfl, rfl⟩)
        | (go_at_call 40; (with_reducible refine (q1 _ (hUD _)).mono ?_); rintro e w1 ⟨rfl, rfl⟩)
        | (go_at_call 40; (with_reducible refine (q2 _ (hUD _)).mono ?_); rintro e w1 ⟨rfl, rfl⟩))
   all_goals (go_wp2_with fail; go_meet; exact ⟨rfl, rfl⟩)
  obtain ⟨rfl, rfl⟩ := hcut
  have q3' := q3 _ (hUD (.cells #[.int .i64 f, .int .i64 (no : Int), .int .i64 (k : Int), .slice none 0 0] 24))
  have hC2 := hUD (.cells #[.int .i64 f, .int .i64 (no : Int), .int .i64 (k : Int), .slice none 0 0] 24)
  have hT2 : TileAt (w1.alloc (.cells #[.int .i64 f, .int .i64 (no : Int), .int .i64 (k : Int), .slice none 0 0] 24)).drew w1.heap.size (w1.heap.size + 1) f no k [] (.slice none 0 0) :=
    ⟨new_cell w1 _ _ rfl, new_cell w1 _ _ rfl, new_cell w1 _ _ rfl, new_cell w1 _ _ rfl, new_frozen w1 _ _ _, World.ownsRow_nil _ _ _ _, Nat.lt_succ_self _⟩
  replace hC1 := (hX1.tr hC1).drew.tr hC2
  replace z0 := hC2.frozen (w := w1.drew) y0 z0 id
  replace z1 := hC2.frozen (w := w1.drew) y1 z1 id
  replace z2 := hC2.frozen (w := w1.drew) y2 z2 id
  replace z3 := hC2.frozen (w := w1.drew) y3 z3 id
  replace y0 := hC2.cell (w := w1.drew) y0 id
  replace y1 := hC2.cell (w := w1.drew) y1 id
  replace y2 := hC2.cell (w := w1.drew) y2 id
  replace y3 := hC2.cell (w := w1.drew) y3 id
  clear q1 q2 q3 hUD hcut1 hcut2 hc0 uno uk hf hC2 hX1
  generalize hw2 : (w1.alloc (.cells #[.int .i64 f, .int .i64 (no : Int), .int .i64 (k : Int), .slice none 0 0] 24)).drew = w2 at *
  clear hw2
  have uq : IntKind.i64.wrap (q : Int) = q := by rw [IntKind.wrap_i64]; omega
  go_wp2_with fail
  refine q3'.mono ?_
  clear q3'
  rintro e w' ⟨rfl, rfl⟩
  go_wp2_with fail
  refine (hfit _).mono ?_
  clear hfit
  rintro e w2 ⟨rfl, rfl⟩
  by_cases hFq : F < (q : Int)
  · have hr : FF = 0 ∧ NO = 0 ∧ K = 0 ∧ L = [] ∧ E = 50 := HDD.out.elim (fun h => h.2) (fun h => absurd h.1 (by omega))
    obtain ⟨r1, r2, r3, r4, r5⟩ := hr
    clear HDD HEN HQ0
    subst r1 r2 r3 r4 r5
    obtain ⟨g0, g1, g2, g3⟩ := set4_cells (.int .i64 0) (.int .i64 0) (.int .i64 0) (.slice none 0 0) y0 y1 y2 y3
    go_wp2
    simp [bodyPost, results, Try.results17, go_sem, g0, g1, g2, g3]
    exact leave5 (base := w.heap.size + 1) (World.ownsRow_nil _ _ _ _) (Nat.le_refl _) hC1
  · have hqn := HQ0.out (by omega)
    have HQN := Lib.hid hqn
    have hDS := HDD.out.elim (fun h => absurd h.1 (by omega)) (fun h => h.2)
    have HDS := Lib.hid hDS
    clear HDD HQ0 hqn hDS hcut3 hi3 bno bkk
    go_wp2
    go_loopw [7] (fun i wr => ∃ (j : Nat) (v : Value), j ≤ q ∧ i = .int .i64 j ∧ TileAt wr w1.heap.size (w1.heap.size + 1) f no k (elemsQ xs j) v ∧ Below (w1.heap.size) w2 wr) (fun i _ => q - (intOf i).toNat)
    case atStart => exact ⟨0, _, Nat.zero_le _, rfl, hT2, Below.refl _ _⟩
    case round =>
      obtain ⟨j, v, hj, rfl, hT, hB⟩ := hrel
      have yB : ∀ i, wr.cell? ⟨w.heap.size, i, none⟩ = w2.cell? ⟨w.heap.size, i, none⟩ := fun i => hB.cell (p := ⟨w.heap.size, i, none⟩) (show w.heap.size < w1.heap.size by omega)
      have zB : ∀ i, wr.frozen? ⟨w.heap.size, i, none⟩ = w2.frozen? ⟨w.heap.size, i, none⟩ := fun i => hB.frozen (p := ⟨w.heap.size, i, none⟩) (show w.heap.size < w1.heap.size by omega)
      by_cases hlt : j < q
      · clear yB zB
        have hlt' : (j : Int) < (q : Int) := by omega
        have hTd : TileAt wr.drew w1.heap.size (w1.heap.size + 1) f no k (elemsQ xs j) v := hT.chg (S := fun _ => False) ((Chg.refl _ wr).drew) id (fun _ _ => id)
        have hSw := HS.out.mid hC1 hB.drew (by omega)
        obtain ⟨a4, d4, hS4, _, hcut4, _, _⟩ := hSw.slice 25 5 Try.underlying25 sizeOf_u8 (20 + 8 * j) (28 + 8 * j) (by omega) (by have := HN.out; have := HQN.out; rw [List.length_map]; omega)
        rw [← List.map_take, ← List.map_drop, show 28 + 8 * j - (20 + 8 * j) = 8 by omega] at hS4
        rw [show 28 + 8 * j - (20 + 8 * j) = 8 by omega, show (((20 + 8 * j : Nat)) : Int) = 20 + 8 * (j : Int) by omega, show (((28 + 8 * j : Nat)) : Int) = 28 + 8 * (j : Int) by omega] at hcut4
        have hwh := (refWhole_any _ ((xs.take (28 + 8 * j)).drop (20 + 8 * j)) _ hS4 (by rw [List.length_drop, List.length_take]; omega)).mono (fun e w' h => (⟨h.1, h.2.symm⟩ : e = _ ∧ w' = wr.drew))
        have hel := elemsQ_succ xs j
        obtain ⟨M, hM⟩ : ∃ M, wholeM ((xs.take (28 + 8 * j)).drop (20 + 8 * j)) = M := ⟨_, rfl⟩
        obtain ⟨x, hx⟩ : ∃ x, elemQ xs j = x := ⟨_, rfl⟩
        rw [hM] at hwh
        rw [hx] at hel
        have ux : IntKind.i64.wrap (M : Int) = x := by rw [← hM, ← hx]; rfl
        have b1 : IntKind.i64.wrap (8 * (j : Int)) = 8 * (j : Int) := IntWalk.i64_in _ (by have := HN.out; have := HQN.out; omega)
        have b2 : IntKind.i64.wrap (20 + 8 * (j : Int)) = 20 + 8 * (j : Int) := IntWalk.i64_in _ (by have := HN.out; have := HQN.out; omega)
        have b3 : IntKind.i64.wrap (28 + 8 * (j : Int)) = 28 + 8 * (j : Int) := IntWalk.i64_in _ (by have := HN.out; have := HQN.out; omega)
        have b4 : IntKind.i64.wrap ((j : Int) + 1) = (j : Int) + 1 := IntWalk.i64_in _ (by have := HN.out; have := HQN.out; omega)
        have m1 : (elemsQ xs j).length + 1 ≤ maxLen := by have := HN.out; have := HQN.out; rw [elemsQ_length]; unfold maxLen; omega
        have m2 : ((elemsQ xs j).length + 1) * 8 ≤ 140737488355328 := by have := HN.out; have := HQN.out; rw [elemsQ_length]; omega
        have hc3 := hTd.c3
        have hfz := hTd.fz
        obtain ⟨i0, hi, hz0, hz1, hz2⟩ := info_parts info_i64
        have HE := Lib.hid hel
        have HL5 := Lib.hid (elemsQ_length xs j)
        obtain ⟨av, L2, cp, rfl, hL2⟩ := owns_name hT.own
        have hc3w := hT.c3
        have hc3a := alloc_cell hT.c3 (.cells #[.int .i64 x] 2)
        have HL6 := Lib.hid (show w1.heap.size < wr.heap.size from cell_lt hT.c3)
        have m3 : w1.heap.size + 1 ≤ (wr.drew.alloc (.cells #[.int .i64 x] 2)).heap.size := by have h : w1.heap.size < wr.heap.size := cell_lt hT.c3; rw [World.size_alloc]; show _ ≤ wr.heap.size + 1; omega
        have HT := Lib.hid hTd
        have HB := Lib.hid hB
        have hstep : (j : Nat) + 1 ≤ q := Nat.succ_le_of_lt hlt
        have HLT := Lib.hid hlt
        clear hSw hS4 hel hT hTd hB hM hx
        go_upto_region 12 with fail
        go_region_law (first
          | (refine step_append_own rfl (.tmp 45) (.tmp 56) 22 rfl (w1.heap.size + 1) 2 i0 (.int .i64 0) 1 8 und_i64s hi hz0 hz1 hz2 rfl (by decide) _ _ _ (by simp [Act.eval]) (HT.out.own.alloc _) (some ⟨wr.heap.size, 0, none⟩) 1 1 [.int .i64 x] (by simp [Act.eval]) rfl (fun j u hu => ⟨_, rfl, cell_one_new wr.drew _ _ j u hu⟩) (by simp [Value.oneCell']) m1 m2 m3 ?_; intro v2 w3 hown hg _ _; obtain ⟨hT2, hC2, hK2⟩ := HT.out.step (x := x) hg hown; have hne1 : ¬ (Value.slice av L2 cp).ownBlock = some w1.heap.size := (fun e => by have := (HT.out.own.lt _ e).1; omega); have hc4 := (((Chg.refl _ wr.drew).alloc _).grown hg (S := fun j => (Value.slice av L2 cp).ownBlock = some j) (fun q e => .inl e)).cell hc3 hne1; have hf4 := (((Chg.refl _ wr.drew).alloc _).grown hg (S := fun j => (Value.slice av L2 cp).ownBlock = some j) (fun q e => .inl e)).frozen hc3 hfz hne1; obtain ⟨ao2, L3, cp2, rfl, hL3⟩ := owns_name hown)
          | (go_simp; go_at_call 40; (with_reducible refine hwh.mono ?_); rintro e w3 ⟨rfl, rfl⟩))
        all_goals go_wp2
        all_goals go_roundw
        all_goals first
          | (case rel =>
              refine ⟨j + 1, _, hstep, by go_num, by rw [HE.out]; exact hT2, HB.out.drew.trans (hC2.belowB (by show _ ≤ wr.heap.size; have := HL6.out; omega) (fun q' hq' => ?_))⟩
              rcases hq' with rfl | hq'
              · exact Nat.le_refl _
              · have := (HT.out.own.lt q' hq').1; omega)
          | (case measure => first | (with_reducible exact fit_meas j q HLT.out) | (with_reducible exact meas_step j q HLT.out b4))
      · obtain rfl : q = j := by omega
        replace y0 := (yB 0).trans y0
        replace y1 := (yB 1).trans y1
        replace y2 := (yB 2).trans y2
        replace y3 := (yB 3).trans y3
        replace z0 := (zB 0).trans z0
        replace z1 := (zB 1).trans z1
        replace z2 := (zB 2).trans z2
        replace z3 := (zB 3).trans z3
        clear yB zB
        have hW : Chg (fun _ => False) w wr := hC1.trans (Chg.of_below hB) (fun _ _ h => h) (fun i hi h => by omega)
        obtain ⟨av, L2, cp, rfl, hL2⟩ := owns_name hT.own
        have x0 := hT.c0
        have x1 := hT.c1
        have x2 := hT.c2
        have x3 := hT.c3
        have hST := hT.list
        have HT := Lib.hid hT
        clear hT hB hC1 hT2
        go_wp2_with fail
        refine (HEN.out _ _ hST).mono ?_
        rintro e wa ⟨va, rfl, hoa, hCa⟩
        replace x0 := hCa.cell x0 id
        replace x1 := hCa.cell x1 id
        replace x2 := hCa.cell x2 id
        replace x3 := hCa.cell x3 id
        replace z0 := hCa.frozen y0 z0 id
        replace z1 := hCa.frozen y1 z1 id
        replace z2 := hCa.frozen y2 z2 id
        replace z3 := hCa.frozen y3 z3 id
        replace y0 := hCa.cell y0 id
        replace y1 := hCa.cell y1 id
        replace y2 := hCa.cell y2 id
        replace y3 := hCa.cell y3 id
        have hWa := hW.tr hCa
        have hSa := Sl.of_owns hoa
        have hSb := HS.out.fr hWa
        obtain ⟨aa, La, ca, rfl, _⟩ := owns_name hoa
        have hc1 := run_convert_sl (P := Try.prog) 25 9 5 Try.underlying25 Try.underlying5 Try.underlying9 hSa
        have hc2 := run_convert_sl (P := Try.prog) 25 9 5 Try.underlying25 Try.underlying5 Try.underlying9 hSb
        obtain ⟨S2, hs2, hs3, _⟩ := str_name xs
        rw [hs2] at hc2
        have hown := HT.out.own
        replace hown := hCa.owns hown (fun _ _ => id)
        have HO := Lib.hid hown
        clear hSa hSb hoa hST hW hown HEN hS3 HS
        rcases HDS.out with ⟨h1, r1, r2, r3, r4, r5⟩ | ⟨h0, h1, r1, r2, r3, r4, r5⟩ | ⟨h0, h1, r1, r2, r3, r4, r5⟩
        · have hE : (EE != 0) = true := bne_iff_ne.2 h1
          clear h1 hc1 hc2 HDS
          subst r1 r2 r3 r4 r5
          obtain ⟨g0, g1, g2, g3⟩ := set4_cells (.int .i64 0) (.int .i64 0) (.int .i64 0) (.slice none 0 0) y0 y1 y2 y3
          go_wp2
          simp [bodyPost, results, Try.results17, go_sem, g0, g1, g2, g3]
          exact leave5 (base := w.heap.size + 1) (World.ownsRow_nil _ _ _ _) (Nat.le_refl _) hWa
        · subst h0
          obtain ⟨S1, hs1, hs4, _⟩ := str_name BB
          rw [hs1] at hc1
          have hne : ¬ S1.toList = S2.toList := fun h => h1 (by rw [← hs4, ← hs3, h])
          have hneB : (S1.toList == S2.toList) = false := beq_eq_false_iff_ne.2 hne
          clear h1 hs1 hs3 hs4 HDS
          subst r1 r2 r3 r4 r5
          obtain ⟨g0, g1, g2, g3⟩ := set4_cells (.int .i64 0) (.int .i64 0) (.int .i64 0) (.slice none 0 0) y0 y1 y2 y3
          go_wp2
          simp [bodyPost, results, Try.results17, go_sem, g0, g1, g2, g3]
          exact leave5 (base := w.heap.size + 1) (World.ownsRow_nil _ _ _ _) (Nat.le_refl _) hWa
        · subst h0
          have HR := Lib.hid (And.intro r1 (And.intro r2 (And.intro r3 (And.intro r4 r5))))
          rw [h1, hs2] at hc1
          clear h1 hs2 hs3 HDS r1 r2 r3 r4 r5
          obtain ⟨g0, g1, g2, g3⟩ := set4_cells (.int .i64 f) (.int .i64 (no : Int)) (.int .i64 (k : Int)) (.slice av L2 cp) y0 y1 y2 y3
          go_wp2
          simp [bodyPost, results, Try.results17, go_sem, g0, g1, g2, g3]
          obtain ⟨r1, r2, r3, r4, r5⟩ := HR.out
          rw [r1, r2, r3, r4, r5]
          exact leave5 (base := w1.heap.size + 1) HO.out (by omega) hWa
end Go.Proofs.Ytccpmbonipfmpaa
