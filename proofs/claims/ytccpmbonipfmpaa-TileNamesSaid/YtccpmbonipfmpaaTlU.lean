/- tile.Decode. -/
import Derived.Test.YtccpmbonipfmpaaTlT
import Derived.Test.YtccpmbonipfmpaaTlQ
import Derived.Lib.MinMax
import Derived.Test.YtccpmbonipfmpaaIn
import Derived.Test.YtccpmbonipfmpaaEqB
namespace Go.Proofs.Ytccpmbonipfmpaa
open Go.RowKit Go.Shelf
attribute [local go_sem] Oper.semAt_some

theorem rVal_lt (l : List UInt8) (s : Nat) (hs : s ≤ 8) : rVal l s < 2 ^ (8 * s) := by
  unfold rVal
  split
  · have hl : (l.take (s : Int).toNat).length ≤ s := by rw [List.length_take, Int.toNat_natCast]; omega
    exact Nat.lt_of_lt_of_le (wholeM_bound _ (by omega)).1 (Nat.pow_le_pow_right (by decide) (by omega))
  · exact Nat.pow_pos (by decide)
def ZT : Obj := .cells #[.int .i64 0, .int .i64 0, .int .i64 0, .slice none 0 0] 24
def pK (xs : List UInt8) : Nat := rVal (xs.drop 3) 1
def pF (xs : List UInt8) : Int := IntKind.i64.wrap (rVal (xs.drop 4) 8 : Nat)
def pNo (xs : List UInt8) : Nat := rVal (xs.drop 12) 4
def pM (xs : List UInt8) : Nat := min (rVal (xs.drop 16) 4) 4096
theorem w64n (q : Nat) (h : q < 4294967296) : wrap64 (q : Int) = q := w64 _ (by omega)
theorem parse_bounds (xs : List UInt8) : pK xs < 256 ∧ pNo xs < 4294967296 ∧ rVal (xs.drop 16) 4 < 4294967296 ∧ In64 (pF xs) :=
  ⟨rVal_lt (xs.drop 3) 1 (by decide), rVal_lt (xs.drop 12) 4 (by decide), rVal_lt (xs.drop 16) 4 (by decide), by unfold In64 pF; rw [IntKind.wrap_i64]; omega⟩
theorem reads_ok (xs : List UInt8) (h : 20 ≤ xs.length) : rawErr (xs.drop 0) 3 = 0 ∧ rawPos (xs.drop 0) 3 0 = 3 ∧ (rErr (xs.drop 3) 1 = 0 ∧ rPos (xs.drop 3) 1 3 = 4) ∧ (rErr (xs.drop 4) 8 = 0 ∧ rPos (xs.drop 4) 8 4 = 12) ∧ (rErr (xs.drop 12) 4 = 0 ∧ rPos (xs.drop 12) 4 12 = 16) ∧ (rErr (xs.drop 16) 4 = 0 ∧ rPos (xs.drop 16) 4 16 = 20) := by
  have r (p : Nat) (s : Nat) (hz : szd s = true) (hp : p + s ≤ xs.length) : rErr (xs.drop p) s = 0 ∧ rPos (xs.drop p) s p = p + s := by
    have e : rErr (xs.drop p) s = 0 := by
      unfold rErr
      rw [hz, if_pos rfl, if_pos (by rw [List.length_drop, Int.toNat_natCast]; omega)]
    exact ⟨e, by unfold rPos; rw [if_pos e, Int.toNat_natCast]⟩
  have e : rawErr (xs.drop 0) 3 = 0 := by
    unfold rawErr
    rw [if_neg (by decide), if_neg (by rw [List.length_drop]; omega)]
  exact ⟨e, by unfold rawPos; rw [if_pos e]; rfl, r 3 1 rfl (by omega), r 4 8 rfl (by omega), r 12 4 rfl (by omega), r 16 4 rfl (by omega)⟩
/-- The elements that stand there, of m told. -/
def elemsP (xs : List UInt8) (m : Nat) : List Int := (List.range (min m ((xs.length - 20) / 8))).map fun j => IntKind.i64.wrap (rVal (xs.drop (20 + 8 * j)) 8 : Nat)
theorem tells_snd (xs : List UInt8) (k : Nat) (h : k = 0 ∨ 20 + 8 * k ≤ xs.length) : (tellsL xs 20 k).map (·.2) = (List.range k).map fun j => IntKind.i64.wrap (rVal (xs.drop (20 + 8 * j)) 8 : Nat) := by
  unfold tellsL
  rw [List.map_map]
  apply List.map_congr_left
  intro j hj
  have := List.mem_range.1 hj
  simp only [Function.comp, tellE]
  rw [if_pos (by omega)]
theorem tells_some (xs : List UInt8) (k : Nat) (h : ∀ x ∈ tellsL xs 20 k, ¬ x.1 < 0) : k = 0 ∨ 20 + 8 * k ≤ xs.length := by
  cases k with
  | zero => exact .inl rfl
  | succ k =>
    refine .inr ?_
    have := h (tellE xs 20 k) (by rw [tellsL_succ]; simp)
    unfold tellE at this
    split at this
    · omega
    · exact (this (by decide)).elim
theorem tells_done (xs : List UInt8) (m : Nat) (h : ∀ x ∈ tellsL xs 20 m, ¬ x.1 < 0) : (tellsL xs 20 m).map (·.2) = elemsP xs m := by
  have h1 := tells_some xs m h
  unfold elemsP
  rw [show min m ((xs.length - 20) / 8) = m by omega]
  exact tells_snd xs m h1
theorem tells_stop (xs : List UInt8) (m k : Nat) (hk : k < m) (h : ∀ x ∈ tellsL xs 20 k, ¬ x.1 < 0) (hs : (tellE xs 20 k).1 < 0) : (tellsL xs 20 k).map (·.2) = elemsP xs m := by
  have h1 := tells_some xs k h
  unfold tellE at hs
  split at hs
  · simp only at hs; omega
  · unfold elemsP
    rw [show min m ((xs.length - 20) / 8) = k by omega]
    exact tells_snd xs k h1
theorem tells_ini (xs : List UInt8) (k : Nat) (ini : List (Int × Int)) (last : Int × Int) (h : tellsL xs 20 (k + 1) = ini ++ [last]) : ini = tellsL xs 20 k ∧ last = tellE xs 20 k := by
  rw [tellsL_succ] at h
  obtain ⟨h1, h2⟩ := List.append_inj' h rfl
  exact ⟨h1.symm, by simpa using h2.symm⟩
/-- What Decode answers: a tile whose list is new, and the error. -/
def GaveT (w : World) (f no k : Int) (l : List Int) (E : Int) (e : Ending) (w' : World) : Prop :=
  ∃ v, e = .returned (.tuple #[.agg #[.int .i64 f, .int .i64 no, .int .i64 k, v], .int .i64 E]) ∧ w'.ownsRow w.heap.size 2 1 v l.length (l.map I) ∧ Chg (fun _ => False) w w'
/-- A tile in block bt whose list, of its own, is l. -/
structure TileAt (W : World) (bt base : Nat) (f no k : Int) (l : List Int) (v : Value) : Prop where
  c0 : W.cell? ⟨bt, 0, none⟩ = some (.int .i64 f)
  c1 : W.cell? ⟨bt, 1, none⟩ = some (.int .i64 no)
  c2 : W.cell? ⟨bt, 2, none⟩ = some (.int .i64 k)
  c3 : W.cell? ⟨bt, 3, none⟩ = some v
  fz : W.frozen? ⟨bt, 3, none⟩ = false
  own : W.ownsRow base 2 1 v l.length (l.map I)
  lt : bt < base
theorem TileAt.kept {A B : World} {bt base : Nat} {f no k : Int} {l : List Int} {v : Value} {row : Option Nat} (h : TileAt A bt base f no k l v) (hg : A.grownBy B row) (hr : ∀ r, row = some r → ∃ o, A.heap[r]? = some o ∧ o.isCells = false) : TileAt B bt base f no k l v :=
  ⟨cell_kept h.c0 hg hr, cell_kept h.c1 hg hr, cell_kept h.c2 hg hr, cell_kept h.c3 hg hr, (frozen_kept h.c3 hg hr).trans h.fz, owns_kept h.own hg hr, h.lt⟩
theorem TileAt.chg {S : Nat → Prop} {A B : World} {bt base : Nat} {f no k : Int} {l : List Int} {v : Value} (h : TileAt A bt base f no k l v) (hC : Chg S A B) (hb : ¬ S bt) (hv : ∀ q, base ≤ q → ¬ S q) : TileAt B bt base f no k l v :=
  ⟨hC.cell h.c0 hb, hC.cell h.c1 hb, hC.cell h.c2 hb, hC.cell h.c3 hb, hC.frozen h.c3 h.fz hb, hC.owns h.own (fun q e => hv q (h.own.lt q e).1), h.lt⟩
theorem TileAt.step {W w1 : World} {bt base : Nat} {f no k x : Int} {l : List Int} {v v2 : Value} {o : Obj} (h : TileAt W bt base f no k l v) (hg : (W.alloc o).grownBy w1 v.ownBlock)
    (hown : w1.ownsRow base 2 1 v2 (l.length + 1) (l.map I ++ [I x])) :
    TileAt (w1.setCell ⟨bt, 3, none⟩ v2) bt base f no k (l ++ [x]) v2 ∧ Chg (fun j => j = bt ∨ v.ownBlock = some j) W (w1.setCell ⟨bt, 3, none⟩ v2) ∧ KeepsOthers W (w1.setCell ⟨bt, 3, none⟩ v2) := by
  have hne : ¬ v.ownBlock = some bt := fun e => by have := (h.own.lt _ e).1; have := h.lt; omega
  have hC : Chg (fun j => v.ownBlock = some j) W w1 := ((Chg.refl _ W).alloc o).grown hg (fun q e => .inl e)
  have hS : Chg (fun j => j = bt ∨ v.ownBlock = some j) W (w1.setCell ⟨bt, 3, none⟩ v2) := (hC.mono (fun _ _ h => .inr h)).setCell (p := ⟨bt, 3, none⟩) (.inl (.inl rfl)) _
  refine ⟨⟨?_, ?_, ?_, World.cell?_setCell_same' _ _ _ (by rw [hC.cell h.c3 hne]; rfl), by rw [World.frozen?_setCell]; exact hC.frozen h.c3 h.fz hne, ?_, h.lt⟩, hS, ?_⟩
  · rw [World.cell?_setCell_other _ _ _ _ (by simp)]; exact hC.cell h.c0 hne
  · rw [World.cell?_setCell_other _ _ _ _ (by simp)]; exact hC.cell h.c1 hne
  · rw [World.cell?_setCell_other _ _ _ _ (by simp)]; exact hC.cell h.c2 hne
  · rw [List.length_append, List.map_append]
    exact ownsRow_setCell_below hown h.lt _
  · refine ((KeepsOthers.alloc W o).trans (KeepsOthers.of_grownBy hg ?_)).trans (KeepsOthers.setCell _ _ _)
    intro j ob hj hob
    rcases h.own.2 with ⟨rfl, _⟩ | ⟨g, cap, cur, rfl, hb, hgg, r⟩
    · simp [Value.ownBlock] at hj
    · have : g = j := by simpa [Value.ownBlock] using hj
      subst this
      rw [(Below.heap_alloc W o g (Array.getElem?_eq_some_iff.1 hgg).1).trans hgg] at hob
      cases hob
      rfl
theorem TileAt.list {W : World} {bt base : Nat} {f no k : Int} {l : List Int} {v : Value} (h : TileAt W bt base f no k l v) : Sl W v (l.map I) := Sl.of_owns h.own
theorem Sl.mid {B : Nat} {w w8 W : World} {v : Value} {vs : List Value} (h : Sl w v vs) (hC : Chg (fun _ => False) w w8) (hB : Below B w8 W) (h1 : w.heap.size ≤ B) : Sl W v vs :=
  ⟨h.form, fun j u hu => by obtain ⟨b, o, c, rfl, hc⟩ := h.cells j u hu; exact ⟨b, o, c, rfl, (hB.cell (p := ⟨b, o + j, none⟩) (Nat.lt_of_lt_of_le (cell_lt hc) h1)).trans (hC.cell hc id)⟩⟩
def DecI (B : Nat) (w8 : World) (bt base : Nat) (f no k : Int) (pre : List (Int × Int)) (W : World) : Prop := ((∃ v, TileAt W bt base f no k (pre.map (·.2)) v) ∧ ∀ x ∈ pre, ¬ x.1 < 0) ∧ Below B w8 W
def DecX (B : Nat) (w8 : World) (bt base : Nat) (f no k : Int) (c : Code) (pre : List (Int × Int)) (W : World) : Prop :=
  (∃ v ini last, TileAt W bt base f no k (ini.map (·.2)) v ∧ c = .exit 0 ∧ pre = ini ++ [last] ∧ (last : Int × Int).1 < 0 ∧ ∀ x ∈ ini, ¬ x.1 < 0) ∧ Below B w8 W
theorem DecI.own (B N : Nat) (w8 : World) (bt base : Nat) (f no k : Int) (h1 : B ≤ w8.heap.size) (h2 : B ≤ N) : OwnFrom N (DecI B w8 bt base f no k) :=
  OwnFrom.and (Own.from (fun _ _ _ _ hs hg hr => ⟨hs.1.imp fun _ h => h.kept hg hr, hs.2⟩) _) (ownFrom_below h1 h2)
theorem DecX.own (B N : Nat) (w8 : World) (bt base : Nat) (f no k : Int) (h1 : B ≤ w8.heap.size) (h2 : B ≤ N) (c : Code) : OwnFrom N (DecX B w8 bt base f no k c) :=
  OwnFrom.and (Own.from (fun _ _ _ _ hs hg hr => by obtain ⟨v, ini, last, h, r⟩ := hs; exact ⟨v, ini, last, h.kept hg hr, r⟩) _) (ownFrom_below h1 h2)
theorem DecI.abides (B rb : Nat) (w8 : World) (bt base : Nat) (f no k : Int) (h1 : B ≤ w8.heap.size) (hr : B ≤ rb) (h2 : rb < bt) (h3 : bt < base) : AbidesT (fun q => q = rb) (DecI B w8 bt base f no k) := fun s A C hs hC =>
  ⟨⟨hs.1.1.imp fun v h => h.chg hC (by omega) (fun q hq => by omega), hs.1.2⟩, hs.2.trans (hC.belowB (by have := hs.2.size; omega) (fun k h => by omega))⟩
theorem DecX.abides (B rb : Nat) (w8 : World) (bt base : Nat) (f no k : Int) (h1 : B ≤ w8.heap.size) (hr : B ≤ rb) (h2 : rb < bt) (h3 : bt < base) (c : Code) : AbidesT (fun q => q = rb) (DecX B w8 bt base f no k c) := fun s A C hs hC => by
  obtain ⟨⟨v, ini, last, h, r⟩, hB⟩ := hs
  exact ⟨⟨v, ini, last, h.chg hC (by omega) (fun q hq => by omega), r⟩, hB.trans (hC.belowB (by have := hB.size; omega) (fun k h => by omega))⟩
theorem dec_leave {w W : World} {D : Nat} {t : Array Value} {F NO K E : Int} {v : Value} {L : List Int} (hK : W.heap[D]? = some (.deferred (some []))) (hD : w.heap.size + 1 ≤ D) (ht2 : t[2]? = some (.pointer (some ⟨w.heap.size, 0, none⟩))) (ht3 : t[3]? = some (.int .i64 E))
    (c0 : W.cell? ⟨w.heap.size, 0, none⟩ = some (.int .i64 F)) (c1 : W.cell? ⟨w.heap.size, 1, none⟩ = some (.int .i64 NO)) (c2 : W.cell? ⟨w.heap.size, 2, none⟩ = some (.int .i64 K)) (c3 : W.cell? ⟨w.heap.size, 3, none⟩ = some v)
    (hown : W.ownsRow w.heap.size 2 1 v L.length (L.map I)) (hW : Chg (fun _ => False) w W) :
    bodyPostM Fence.wide 8 Try.prog Try.f16 (GaveT w F NO K L E) .ret { tmps := t, defers := [{ target := .collected D, args := #[] }] } W := by
  have g0 := putObj_cell (o' := .deferred none) hK rfl c0
  have g1 := putObj_cell (o' := .deferred none) hK rfl c1
  have g2 := putObj_cell (o' := .deferred none) hK rfl c2
  have g3 := putObj_cell (o' := .deferred none) hK rfl c3
  refine leave_mark (v := .tuple #[.agg #[.int .i64 F, .int .i64 NO, .int .i64 K, v], .int .i64 E]) hK ?_ ⟨v, rfl, owns_kept hown (grownBy_putObj' W D _) (fun r e => by cases e; exact ⟨_, hK, rfl⟩), hW.putObj (.inr (by omega)) _⟩
  simp [results, Try.f16, go_sem, ht2, ht3, g0, g1, g2, g3]
theorem dec_leave4 {w W : World} {D base : Nat} {t : Array Value} {F NO K E : Int} {u0 u1 u2 u3 v : Value} {L : List Int} (hK : W.heap[D]? = some (.deferred (some []))) (hD : w.heap.size + 1 ≤ D) (ht2 : t[2]? = some (.pointer (some ⟨w.heap.size, 0, none⟩))) (ht3 : t[3]? = some (.int .i64 E))
    (y0 : W.cell? ⟨w.heap.size, 0, none⟩ = some u0) (y1 : W.cell? ⟨w.heap.size, 1, none⟩ = some u1) (y2 : W.cell? ⟨w.heap.size, 2, none⟩ = some u2) (y3 : W.cell? ⟨w.heap.size, 3, none⟩ = some u3)
    (hown : W.ownsRow base 2 1 v L.length (L.map I)) (hb : w.heap.size + 1 ≤ base) (hW : Chg (fun _ => False) w W) :
    bodyPostM Fence.wide 8 Try.prog Try.f16 (GaveT w F NO K L E) .ret { tmps := t, defers := [{ target := .collected D, args := #[] }] } ((((W.setCell ⟨w.heap.size, 0, none⟩ (.int .i64 F)).setCell ⟨w.heap.size, 1, none⟩ (.int .i64 NO)).setCell ⟨w.heap.size, 2, none⟩ (.int .i64 K)).setCell ⟨w.heap.size, 3, none⟩ v) := by
  obtain ⟨g0, g1, g2, g3⟩ := set4_cells (.int .i64 F) (.int .i64 NO) (.int .i64 K) v y0 y1 y2 y3
  have hKs := ((((KeepsOthers.setCell W ⟨w.heap.size, 0, none⟩ (.int .i64 F)).trans (KeepsOthers.setCell _ ⟨w.heap.size, 1, none⟩ (.int .i64 NO))).trans (KeepsOthers.setCell _ ⟨w.heap.size, 2, none⟩ (.int .i64 K))).trans (KeepsOthers.setCell _ ⟨w.heap.size, 3, none⟩ v)).same D _ hK rfl
  refine dec_leave hKs hD ht2 ht3 ?_ ?_ ?_ g3 ?_ ((((hW.setCell (p := ⟨w.heap.size, 0, none⟩) (.inr (Nat.le_refl _)) _).setCell (p := ⟨w.heap.size, 1, none⟩) (.inr (Nat.le_refl _)) _).setCell (p := ⟨w.heap.size, 2, none⟩) (.inr (Nat.le_refl _)) _).setCell (p := ⟨w.heap.size, 3, none⟩) (.inr (Nat.le_refl _)) _)
  · rw [World.cell?_setCell_other _ _ _ _ (by simp), World.cell?_setCell_other _ _ _ _ (by simp), World.cell?_setCell_other _ _ _ _ (by simp)]; exact g0
  · rw [World.cell?_setCell_other _ _ _ _ (by simp), World.cell?_setCell_other _ _ _ _ (by simp)]; exact g1
  · rw [World.cell?_setCell_other _ _ _ _ (by simp)]; exact g2
  · have h4 := ownsRow_setCell_below (ownsRow_setCell_below (ownsRow_setCell_below (ownsRow_setCell_below hown (a := ⟨w.heap.size, 0, none⟩) hb (.int .i64 F)) (a := ⟨w.heap.size, 1, none⟩) hb (.int .i64 NO)) (a := ⟨w.heap.size, 2, none⟩) hb (.int .i64 K)) (a := ⟨w.heap.size, 3, none⟩) hb v
    exact ⟨h4.1, h4.2.imp id fun ⟨g, cap, cur, hv, hg, r⟩ => ⟨g, cap, cur, hv, by omega, r⟩⟩
/-- What Decode comes to, of bytes that are sound. -/
def DecS (xs : List UInt8) (f no k : Int) (l L : List Int) (F NO K E : Int) (EE : Int) (BB : List UInt8) : Prop :=
  (EE ≠ 0 ∧ F = 0 ∧ NO = 0 ∧ K = 0 ∧ L = [] ∧ E = 50) ∨ (EE = 0 ∧ BB ≠ xs ∧ F = 0 ∧ NO = 0 ∧ K = 0 ∧ L = [] ∧ E = 50) ∨ (EE = 0 ∧ BB = xs ∧ F = f ∧ NO = no ∧ K = k ∧ L = l ∧ E = 0)
set_option maxRecDepth 100000 in
set_option maxHeartbeats 1000000 in
theorem dec_sound (ao0 : Option Addr) (n c s : Nat) (xs : List UInt8) (w : World) (hS : Sl w (.slice ao0 n c) (xs.map B)) (hl : xs.length + 100 ≤ 140737488355328) (h20 : 20 ≤ xs.length) (hw : wrap64 ((n : Int) / 128) = (s : Int))
    (hs : ∀ w', Chg (fun _ => False) w w' → Calls Try.prog 18 #[.slice ao0 n c] w' (GaveBo w' true)) (EE F NO K E : Int) (BB : List UInt8) (L : List Int) (hD : DecS xs (pF xs) (pNo xs : Nat) (pK xs : Nat) (elemsP xs (pM xs)) L F NO K E EE BB)
    (henc : ∀ w' v, Sl w' v ((elemsP xs (pM xs)).map I) → Calls Try.prog 9 #[.agg #[.int .i64 (pF xs), .int .i64 (pNo xs : Nat), .int .i64 (pK xs : Nat), v], .int .i64 s] w' (GaveBE w' BB EE)) :
    Calls Try.prog 16 #[.slice ao0 n c] w (GaveT w F NO K L E) := by
  obtain ⟨g0, g1, ⟨g2, g3⟩, ⟨g4, g5⟩, ⟨g6, g7⟩, ⟨g8, g9⟩⟩ := reads_ok xs h20
  have HS := Lib.hid hS
  have hX1 : Chg (fun _ => False) w (w.alloc (.cells #[.int .i64 0, .int .i64 0, .int .i64 0, .slice none 0 0] 24)) := (Chg.refl _ w).alloc _
  obtain ⟨wr0, hwr0⟩ : ∃ wr0, w.alloc (.cells #[.int .i64 0, .int .i64 0, .int .i64 0, .slice none 0 0] 24) = wr0 := ⟨_, rfl⟩
  have y0 : wr0.cell? ⟨w.heap.size, 0, none⟩ = some (.int .i64 0) := by rw [← hwr0]; exact new_cell w _ _ rfl
  have y1 : wr0.cell? ⟨w.heap.size, 1, none⟩ = some (.int .i64 0) := by rw [← hwr0]; exact new_cell w _ _ rfl
  have y2 : wr0.cell? ⟨w.heap.size, 2, none⟩ = some (.int .i64 0) := by rw [← hwr0]; exact new_cell w _ _ rfl
  have y3 : wr0.cell? ⟨w.heap.size, 3, none⟩ = some (.slice none 0 0) := by rw [← hwr0]; exact new_cell w _ _ rfl
  have z0 : wr0.frozen? ⟨w.heap.size, 0, none⟩ = false := by rw [← hwr0]; exact new_frozen w _ _ _
  have z1 : wr0.frozen? ⟨w.heap.size, 1, none⟩ = false := by rw [← hwr0]; exact new_frozen w _ _ _
  have z2 : wr0.frozen? ⟨w.heap.size, 2, none⟩ = false := by rw [← hwr0]; exact new_frozen w _ _ _
  have z3 : wr0.frozen? ⟨w.heap.size, 3, none⟩ = false := by rw [← hwr0]; exact new_frozen w _ _ _
  have sz0 : wr0.heap.size = w.heap.size + 1 := by rw [← hwr0]; simp
  have HWR := Lib.hid hwr0
  have HDD := Lib.hid hD
  rw [hwr0] at hX1
  clear hwr0 hD
  have HL := Lib.hid (show xs.length + 100 ≤ 140737488355328 ∧ 20 ≤ xs.length from ⟨hl, h20⟩)
  clear hS hl h20
  (refine calls_of_wp_marks Try.func16 rfl ?_; simp only [Try.ntmps16, List.size_toArray, List.length_cons, List.length_nil, Nat.reduceAdd, Nat.reduceSub, Array.replicate_succ, Array.replicate_zero, List.push_toArray, List.append_toArray, List.nil_append, List.cons_append])
  go_wp2
  go_step3
  go_wp2_with fail
  rw [HWR.out]
  refine (hs _ hX1).mono ?_
  rintro e w1 ⟨rfl, hC1⟩
  have hX := hX1.tr hC1
  have hr := read_any _ xs _ (HS.out.fr hX) (by have := HL.out; omega)
  go_wp2_with fail
  refine hr.mono ?_
  clear hr
  rintro e w2 ⟨rb, rv, rfl, hrb, hrl, hR0, hC2⟩
  have h1 := rraw_any 3 rb rv xs 0 w2 hR0
  rw [g0, g1] at h1
  go_wp2_with fail
  refine h1.mono ?_
  clear h1
  rintro e w3 ⟨v3, rfl, _, hR3, hC3⟩
  have h1 : Calls Try.prog 36 #[.pointer (some ⟨rb, 0, none⟩), .int .i64 1] w3 (ReadPost w3 rb rv xs (.int .u64 (pK xs : Nat)) _ _) := rnum_any 1 rb rv xs 3 w3 hR3
  rw [g2, g3] at h1
  go_wp2_with fail
  refine h1.mono ?_
  clear h1
  rintro e w4 ⟨rfl, hR4, hC4⟩
  have h1 : Calls Try.prog 37 #[.pointer (some ⟨rb, 0, none⟩)] w4 (ReadPost w4 rb rv xs (.int .i64 (pF xs)) _ _) := rint_any rb rv xs 4 w4 hR4
  rw [g4, g5] at h1
  go_wp2_with fail
  refine h1.mono ?_
  clear h1
  rintro e w5 ⟨rfl, hR5, hC5⟩
  have h1 : Calls Try.prog 36 #[.pointer (some ⟨rb, 0, none⟩), .int .i64 4] w5 (ReadPost w5 rb rv xs (.int .u64 (pNo xs : Nat)) _ _) := rnum_any 4 rb rv xs 12 w5 hR5
  rw [g6, g7] at h1
  go_wp2_with fail
  refine h1.mono ?_
  clear h1
  rintro e w6 ⟨rfl, hR6, hC6⟩
  have h1 : Calls Try.prog 36 #[.pointer (some ⟨rb, 0, none⟩), .int .i64 4] w6 (ReadPost w6 rb rv xs (.int .u64 (rVal (xs.drop 16) 4 : Nat)) _ _) := rnum_any 4 rb rv xs 16 w6 hR6
  rw [g8, g9] at h1
  go_wp2_with fail
  refine h1.mono ?_
  clear h1
  rintro e w7 ⟨rfl, hR7, hC7⟩
  clear hR0 hR3 hR4 hR5 hR6
  obtain ⟨bk, bn, bm, _⟩ := parse_bounds xs
  generalize hpK : pK xs = k at *
  generalize hpN : pNo xs = no at *
  generalize hpF : pF xs = f at *
  have hpM' : pM xs = min (rVal (xs.drop 16) 4) 4096 := rfl
  generalize hpM : rVal (xs.drop 16) 4 = q at *
  have uk : wrap64 (k : Int) = k := w64n _ (Nat.lt_trans bk (by decide))
  have un : wrap64 (no : Int) = no := w64n _ bn
  obtain ⟨m, hm0, hm1⟩ : ∃ m : Nat, min (q : Int) 4096 = (m : Int) ∧ m = min q 4096 := ⟨min q 4096, by omega, rfl⟩
  rw [← hm1] at hpM'
  rw [hpM'] at henc
  rw [hpM'] at HDD
  clear hpM'
  have HM0 := Lib.hid hm0
  have HEN := Lib.hid henc
  clear henc
  have HM := Lib.hid hm1
  clear hm0 hm1
  clear bk bn bm g0 g1 g2 g3 g4 g5 g6 g7 g8 g9 hs
  go_wp2_with fail
  go_step3
  have hR8 := ((hR7.fr ((Chg.refl _ w7).alloc (.cells #[.int .i64 f, .int .i64 no, .int .i64 k, .slice none 0 0] 24))).fr ((Chg.refl _ _).alloc (.cells #[.pointer (some ⟨rb, 0, none⟩)] 64))).fr ((Chg.refl _ _).alloc (.cells #[.int .i64 (m : Int)] 3))
  have rlt := cell_lt hR7.c0
  have rv7 := hR7.vlt
  go_wp2_with (go_at_call 38; refine (elements_any _ _ _).mono ?_; rintro e w' ⟨rfl, rfl⟩)
  rw [HM0.out]
  have t0 : ∀ i v, (#[.int .i64 f, .int .i64 no, .int .i64 k, .slice none 0 0] : Array Value)[i]? = some v → (((w7.alloc (.cells #[.int .i64 f, .int .i64 no, .int .i64 k, .slice none 0 0] 24)).alloc (.cells #[.pointer (some ⟨rb, 0, none⟩)] 64)).alloc (.cells #[.int .i64 (m : Int)] 3)).cell? ⟨w7.heap.size, i, none⟩ = some v := fun i v h => alloc_cell (alloc_cell (new_cell w7 _ _ h) _) _
  have tz : (((w7.alloc (.cells #[.int .i64 f, .int .i64 no, .int .i64 k, .slice none 0 0] 24)).alloc (.cells #[.pointer (some ⟨rb, 0, none⟩)] 64)).alloc (.cells #[.int .i64 (m : Int)] 3)).frozen? ⟨w7.heap.size, 3, none⟩ = false := alloc_frozen (alloc_cell (new_cell w7 _ _ (i := 3) rfl) _) (alloc_frozen (new_cell w7 _ _ (i := 3) rfl) (new_frozen w7 _ _ _) _) _
  have b1c : (((w7.alloc (.cells #[.int .i64 f, .int .i64 no, .int .i64 k, .slice none 0 0] 24)).alloc (.cells #[.pointer (some ⟨rb, 0, none⟩)] 64)).alloc (.cells #[.int .i64 (m : Int)] 3)).cell? ⟨w7.heap.size + 1, 0, none⟩ = some (.pointer (some ⟨rb, 0, none⟩)) := alloc_cell (new_cell1 w7 _ _ _ rfl) _
  have b2c : (((w7.alloc (.cells #[.int .i64 f, .int .i64 no, .int .i64 k, .slice none 0 0] 24)).alloc (.cells #[.pointer (some ⟨rb, 0, none⟩)] 64)).alloc (.cells #[.int .i64 (m : Int)] 3)).cell? ⟨w7.heap.size + 2, 0, none⟩ = some (.int .i64 (m : Int)) := by
    have := new_cell ((w7.alloc (.cells #[.int .i64 f, .int .i64 no, .int .i64 k, .slice none 0 0] 24)).alloc (.cells #[.pointer (some ⟨rb, 0, none⟩)] 64)) #[.int .i64 (m : Int)] 3 (i := 0) rfl
    rw [World.size_alloc, World.size_alloc] at this
    exact this
  have hsz : (((w7.alloc (.cells #[.int .i64 f, .int .i64 no, .int .i64 k, .slice none 0 0] 24)).alloc (.cells #[.pointer (some ⟨rb, 0, none⟩)] 64)).alloc (.cells #[.int .i64 (m : Int)] 3)).heap.size = w7.heap.size + 3 := by rw [World.size_alloc, World.size_alloc, World.size_alloc]
  have hX8 : Chg (fun _ => False) w7 (((w7.alloc (.cells #[.int .i64 f, .int .i64 no, .int .i64 k, .slice none 0 0] 24)).alloc (.cells #[.pointer (some ⟨rb, 0, none⟩)] 64)).alloc (.cells #[.int .i64 (m : Int)] 3)) := (((Chg.refl _ w7).alloc _).alloc _).alloc _
  obtain ⟨w8, hw8⟩ : ∃ w8, (((w7.alloc (.cells #[.int .i64 f, .int .i64 no, .int .i64 k, .slice none 0 0] 24)).alloc (.cells #[.pointer (some ⟨rb, 0, none⟩)] 64)).alloc (.cells #[.int .i64 (m : Int)] 3)) = w8 := ⟨_, rfl⟩
  rw [hw8] at tz b1c b2c hsz hX8 hR8
  have hT8 : TileAt w8 w7.heap.size (w7.heap.size + 3) f no k [] (.slice none 0 0) := by
    rw [hw8] at t0
    exact ⟨t0 0 _ rfl, t0 1 _ rfl, t0 2 _ rfl, t0 3 _ rfl, tz, World.ownsRow_nil _ _ _ _, by omega⟩
  rw [hw8]
  have hC8 : Chg (fun _ => False) wr0 w8 := ((((((hC1.tr hC2).trans hC3 (fun _ _ h => h) (fun i hi h => by have := hC1.size; omega)).trans hC4 (fun _ _ h => h) (fun i hi h => by have := hC1.size; omega)).trans hC5 (fun _ _ h => h) (fun i hi h => by have := hC1.size; omega)).trans hC6 (fun _ _ h => h) (fun i hi h => by have := hC1.size; omega)).trans hC7 (fun _ _ h => h) (fun i hi h => by have := hC1.size; omega)).tr hX8
  replace z0 := hC8.frozen y0 z0 id
  replace z1 := hC8.frozen y1 z1 id
  replace z2 := hC8.frozen y2 z2 id
  replace z3 := hC8.frozen y3 z3 id
  replace y0 := hC8.cell y0 id
  replace y1 := hC8.cell y1 id
  replace y2 := hC8.cell y2 id
  replace y3 := hC8.cell y3 id
  have hW8 := hX1.tr hC8
  have wlt : w.heap.size ≤ w7.heap.size := by have := hX.size; have := hrb; omega
  have wrb : w.heap.size + 1 ≤ rb := by have := hC1.size; omega
  have wl8 : w.heap.size + 1 ≤ w8.heap.size := by omega
  clear t0 hw8
  refine wp_rangeT (gf := 52) (lb := #[.pointer (some ⟨w7.heap.size + 2, 0, none⟩), .pointer (some ⟨w7.heap.size + 1, 0, none⟩)]) (R := fun q => q = rb ∨ q = w7.heap.size + 1 ∨ rv.ownBlock = some q) (T := fun q => q = rb) rfl (enters_of Try.func52 (by kernel_rfl) rfl)
    (fun q h => by omega) (fun q h => by rcases h with rfl | rfl | h; omega; omega; have := rv7 q h; omega) (elements_seq _ _ rb 20 m (by have := HM.out; omega) rv xs (by have := HL.out; omega) (by omega) w8 b2c b1c hR8) (fun _ => rfl)
    (DecI (w.heap.size + 1) w8 w7.heap.size (w7.heap.size + 3) f no k) (DecX (w.heap.size + 1) w8 w7.heap.size (w7.heap.size + 3) f no k)
    (DecI.own _ _ _ _ _ _ _ _ wl8 (by omega)) (DecX.own _ _ _ _ _ _ _ _ wl8 (by omega)) (DecI.abides _ _ _ _ _ _ _ _ wl8 wrb (by omega) (by omega)) (DecX.abides _ _ _ _ _ _ _ _ wl8 wrb (by omega) (by omega)) ⟨⟨⟨_, hT8⟩, by simp⟩, Below.refl _ _⟩ ?a1 ?assign ?body ?done ?stop
  case assign =>
    intro l x W K hK
    simp only [encE2]
    gi_wp2
    exact hK
  case body =>
    rintro l pre ⟨x, y⟩ W ⟨⟨⟨v, hT⟩, hne⟩, hB⟩ hlen
    clear hX1 hX hR8 hT8 tz b1c b2c hX8 hC1 hC2 hC3 hC4 hC5 hC6 hC7 hC8 hR7 uk un y0 y1 y2 y3 z0 z1 z2 z3 hW8 hw
    have hn := Lib.hid hne
    have hc3 := hT.c3
    have hfz := hT.fz
    have hbl := Lib.hid hlen
    have rvl := Lib.hid rv7
    obtain ⟨i0, hi, hz0, hz1, hz2⟩ := info_parts info_i64
    obtain ⟨ao, L, cp, rfl, hL⟩ := owns_name hT.own
    clear hne rv7 hlen
    by_cases hx : x < 0
    · gi_wp2
      exact ⟨KeepsFrom.refl _ _, ⟨_, pre, (x, y), hT, rfl, rfl, hx, fun a ha => by have := hn.out a ha; omega⟩, hB⟩
    · gi_wp2_with (gi_at_builtin; go_must (refine wpListIn_append_own_any rfl (.tmp 62) (.tmp 64) 22 rfl (w7.heap.size + 3) 2 i0 (.int .i64 0) 1 8 und_i64s hi hz0 hz1 hz2 rfl (by decide) _ _ _ rfl (hT.own.alloc _) (some ⟨W.heap.size, 0, none⟩) 1 1 [.int .i64 y] rfl rfl (fun j u hu => ⟨_, rfl, cell_one_new W _ _ j u hu⟩) (by simp [Value.oneCell']) (by have := HM.out; have := hbl.out; simp [maxLen]; omega) (by have := HM.out; have := hbl.out; simp; omega) (by have := hB.size; simp; omega) ?_); intro v2 w1 hown hg _ _; obtain ⟨hT2, hC2, hK2⟩ := hT.step hg hown; have hne1 : ¬ (Value.slice ao L cp).ownBlock = some w7.heap.size := (fun e => by have := (hT.own.lt _ e).1; omega); have hc4 := (((Chg.refl _ W).alloc _).grown hg (S := fun j => (Value.slice ao L cp).ownBlock = some j) (fun q e => .inl e)).cell hc3 hne1; have hf4 := (((Chg.refl _ W).alloc _).grown hg (S := fun j => (Value.slice ao L cp).ownBlock = some j) (fun q e => .inl e)).frozen hc3 hfz hne1; obtain ⟨ao2, L2, cp2, rfl, hL2⟩ := owns_name hown)
      refine ⟨hK2.from _, Keep.of_chg hC2 (fun q hq => ?_), ⟨⟨_, by rw [List.map_append]; exact hT2⟩, ?_⟩, hB.trans (hC2.belowB (by have := hB.size; omega) (fun q hq => ?_))⟩
      · have hlo : ∀ q, (Value.slice ao L cp).ownBlock = some q → w7.heap.size + 3 ≤ q := fun q e => (hT.own.lt q e).1
        have := hB.size
        rcases hq with rfl | rfl | hq
        · exact ⟨by omega, fun h => h.elim (by omega) (fun e => by have := hlo _ e; omega)⟩
        · exact ⟨by omega, fun h => h.elim (by omega) (fun e => by have := hlo _ e; omega)⟩
        · have := rvl.out q hq
          exact ⟨by omega, fun h => h.elim (by omega) (fun e => by have := hlo _ e; omega)⟩
      · intro z hz
        rcases List.mem_append.1 hz with hz | hz
        · have := hn.out z hz; omega
        · simp only [List.mem_singleton] at hz
          subst hz
          show ¬ x < 0
          omega
      · rcases hq with rfl | hq
        · omega
        · have := (hT.own.lt q hq).1
          omega
  case done =>
    rintro D ys W hD rfl ⟨⟨⟨v, hT⟩, hne⟩, hB⟩ hK
    rw [tells_done xs m hne] at hT
    have henc := HEN.out
    have HSu := Lib.hid (HS.out.mid hW8 hB (Nat.le_succ _))
    clear hX1 hX hR8 hT8 tz b1c b2c hX8 hC1 hC2 hC3 hC4 hC5 hC6 hC7 hC8 hR7 uk un hne HEN
    obtain ⟨ao, L2, cp, rfl, hL2⟩ := owns_name hT.own
    have x0 := hT.c0
    have x1 := hT.c1
    have x2 := hT.c2
    have x3 := hT.c3
    have hST := hT.list
    have hOwn := Lib.hid hT.own
    have HB := Lib.hid hB
    have HT := Lib.hid hT
    have y0 := (hB.cell (p := ⟨w.heap.size, 0, none⟩) (by simp)).trans y0
    have y1 := (hB.cell (p := ⟨w.heap.size, 1, none⟩) (by simp)).trans y1
    have y2 := (hB.cell (p := ⟨w.heap.size, 2, none⟩) (by simp)).trans y2
    have y3 := (hB.cell (p := ⟨w.heap.size, 3, none⟩) (by simp)).trans y3
    have z0 := (hB.frozen (p := ⟨w.heap.size, 0, none⟩) (by simp)).trans z0
    have z1 := (hB.frozen (p := ⟨w.heap.size, 1, none⟩) (by simp)).trans z1
    have z2 := (hB.frozen (p := ⟨w.heap.size, 2, none⟩) (by simp)).trans z2
    have z3 := (hB.frozen (p := ⟨w.heap.size, 3, none⟩) (by simp)).trans z3
    clear hT hB
    go_wp2_with fail
    refine (henc _ _ hST).mono ?_
    clear henc
    rintro e wa ⟨va, rfl, hoa, hCa⟩
    replace x0 := hCa.cell x0 id
    replace x1 := hCa.cell x1 id
    replace x2 := hCa.cell x2 id
    replace x3 := hCa.cell x3 id
    replace z0 := hCa.frozen y0 z0 id
    replace z1 := hCa.frozen y1 z1 id
    replace z2 := hCa.frozen y2 z2 id
    replace z3 := hCa.frozen y3 z3 id
    replace y0 := hCa.cell y0 id
    replace y1 := hCa.cell y1 id
    replace y2 := hCa.cell y2 id
    replace y3 := hCa.cell y3 id
    have heq := equalB_any va (.slice ao0 n c) BB xs wa (Sl.of_owns hoa) (HSu.out.fr hCa)
    have hWa : Chg (fun _ => False) w wa := (hW8.trans (Chg.of_below HB.out) (T := fun _ => False) (fun _ _ h => h) (fun i hi h => by omega)).tr hCa
    have hKa : wa.heap[D]? = some (.deferred (some [])) := (hCa.block D (Array.getElem?_eq_some_iff.1 hK).1 id).trans hK
    rcases HDD.out with ⟨h1, r1, r2, r3, r4, r5⟩ | ⟨h0, h1, r1, r2, r3, r4, r5⟩ | ⟨h0, h1, r1, r2, r3, r4, r5⟩
    · have hE : (EE != 0) = true := bne_iff_ne.2 h1
      clear h1 heq HDD
      subst r1 r2 r3 r4 r5
      go_wp2
      exact dec_leave4 hKa (by omega) rfl rfl y0 y1 y2 y3 (World.ownsRow_nil _ _ _ _) (Nat.le_refl _) hWa
    · subst h0
      rw [decide_eq_false h1] at heq
      clear h1 HDD
      subst r1 r2 r3 r4 r5
      go_wp2_with fail
      refine heq.mono ?_
      clear heq
      rintro e wb ⟨rfl, rfl⟩
      go_wp2
      exact dec_leave4 hKa (by omega) rfl rfl y0 y1 y2 y3 (World.ownsRow_nil _ _ _ _) (Nat.le_refl _) hWa
    · subst h0
      rw [decide_eq_true h1] at heq
      clear h1 HDD
      have HR := Lib.hid (And.intro r1 (And.intro r2 (And.intro r3 (And.intro r4 r5))))
      clear r1 r2 r3 r4 r5
      go_wp2_with fail
      refine heq.mono ?_
      clear heq
      rintro e wb ⟨rfl, rfl⟩
      go_wp2
      obtain ⟨r1, r2, r3, r4, r5⟩ := HR.out
      rw [r1, r2, r3, r4, r5]
      exact dec_leave4 hKa (by omega) rfl rfl y0 y1 y2 y3 (hCa.owns hOwn.out (fun _ _ => id)) (by omega) hWa
  case stop =>
    rintro D c pre W hD ⟨kk, hkk, rfl⟩ ⟨⟨v, ini, last, hT, rfl, hpre, hlt, hne⟩, hB⟩ hK
    obtain ⟨rfl, rfl⟩ := tells_ini xs kk ini last hpre
    rw [tells_stop xs m kk hkk hne hlt] at hT
    have henc := HEN.out
    have HSu := Lib.hid (HS.out.mid hW8 hB (Nat.le_succ _))
    clear hX1 hX hR8 hT8 tz b1c b2c hX8 hC1 hC2 hC3 hC4 hC5 hC6 hC7 hC8 hR7 uk un hne HEN hlt hkk hpre
    obtain ⟨ao, L2, cp, rfl, hL2⟩ := owns_name hT.own
    have x0 := hT.c0
    have x1 := hT.c1
    have x2 := hT.c2
    have x3 := hT.c3
    have hST := hT.list
    have hOwn := Lib.hid hT.own
    have HB := Lib.hid hB
    have HT := Lib.hid hT
    have y0 := (hB.cell (p := ⟨w.heap.size, 0, none⟩) (by simp)).trans y0
    have y1 := (hB.cell (p := ⟨w.heap.size, 1, none⟩) (by simp)).trans y1
    have y2 := (hB.cell (p := ⟨w.heap.size, 2, none⟩) (by simp)).trans y2
    have y3 := (hB.cell (p := ⟨w.heap.size, 3, none⟩) (by simp)).trans y3
    have z0 := (hB.frozen (p := ⟨w.heap.size, 0, none⟩) (by simp)).trans z0
    have z1 := (hB.frozen (p := ⟨w.heap.size, 1, none⟩) (by simp)).trans z1
    have z2 := (hB.frozen (p := ⟨w.heap.size, 2, none⟩) (by simp)).trans z2
    have z3 := (hB.frozen (p := ⟨w.heap.size, 3, none⟩) (by simp)).trans z3
    clear hT hB
    go_wp2_with fail
    refine (henc _ _ hST).mono ?_
    clear henc
    rintro e wa ⟨va, rfl, hoa, hCa⟩
    replace x0 := hCa.cell x0 id
    replace x1 := hCa.cell x1 id
    replace x2 := hCa.cell x2 id
    replace x3 := hCa.cell x3 id
    replace z0 := hCa.frozen y0 z0 id
    replace z1 := hCa.frozen y1 z1 id
    replace z2 := hCa.frozen y2 z2 id
    replace z3 := hCa.frozen y3 z3 id
    replace y0 := hCa.cell y0 id
    replace y1 := hCa.cell y1 id
    replace y2 := hCa.cell y2 id
    replace y3 := hCa.cell y3 id
    have heq := equalB_any va (.slice ao0 n c) BB xs wa (Sl.of_owns hoa) (HSu.out.fr hCa)
    have hWa : Chg (fun _ => False) w wa := (hW8.trans (Chg.of_below HB.out) (T := fun _ => False) (fun _ _ h => h) (fun i hi h => by omega)).tr hCa
    have hKa : wa.heap[D]? = some (.deferred (some [])) := (hCa.block D (Array.getElem?_eq_some_iff.1 hK).1 id).trans hK
    rcases HDD.out with ⟨h1, r1, r2, r3, r4, r5⟩ | ⟨h0, h1, r1, r2, r3, r4, r5⟩ | ⟨h0, h1, r1, r2, r3, r4, r5⟩
    · have hE : (EE != 0) = true := bne_iff_ne.2 h1
      clear h1 heq HDD
      subst r1 r2 r3 r4 r5
      go_wp2
      exact dec_leave4 hKa (by omega) rfl rfl y0 y1 y2 y3 (World.ownsRow_nil _ _ _ _) (Nat.le_refl _) hWa
    · subst h0
      rw [decide_eq_false h1] at heq
      clear h1 HDD
      subst r1 r2 r3 r4 r5
      go_wp2_with fail
      refine heq.mono ?_
      clear heq
      rintro e wb ⟨rfl, rfl⟩
      go_wp2
      exact dec_leave4 hKa (by omega) rfl rfl y0 y1 y2 y3 (World.ownsRow_nil _ _ _ _) (Nat.le_refl _) hWa
    · subst h0
      rw [decide_eq_true h1] at heq
      clear h1 HDD
      have HR := Lib.hid (And.intro r1 (And.intro r2 (And.intro r3 (And.intro r4 r5))))
      clear r1 r2 r3 r4 r5
      go_wp2_with fail
      refine heq.mono ?_
      clear heq
      rintro e wb ⟨rfl, rfl⟩
      go_wp2
      obtain ⟨r1, r2, r3, r4, r5⟩ := HR.out
      rw [r1, r2, r3, r4, r5]
      exact dec_leave4 hKa (by omega) rfl rfl y0 y1 y2 y3 (hCa.owns hOwn.out (fun _ _ => id)) (by omega) hWa
end Go.Proofs.Ytccpmbonipfmpaa
