/- turn: along, reverse, told. -/
import Derived.Test.YtmmbdhfljabefaaTrA
import Derived.Laws.EntriesVeiled
namespace Go.Proofs.Ytmmbdhfljabefaa
open Go.RowKit Go.Shelf

theorem ediv_lt_cnt {s : List Int} {i : Nat} (hsh : shB s = true) (hi : i < cnt s) : 0 < rowN s ∧ rowN s ≤ 4096 ∧ (i : Int) ≤ 4096 := by
  have h1 := cnt_int s
  have h2 := cntN_bd s
  rw [cntN_ok hsh] at h1 h2
  have hs := shB_iff.1 hsh
  have hp := pos_of_prod (s := s) (fun l hl => (hs.2.1 l hl).1) (by omega)
  refine ⟨?_, ?_, by omega⟩
  · unfold rowN
    cases h : s.getLast? with
    | none => decide
    | some a => exact hp a (List.mem_of_getLast? h)
  · unfold rowN
    cases h : s.getLast? with
    | none => decide
    | some a => exact (hs.2.1 a (List.mem_of_getLast? h)).2
def alongG (s : List Int) (F : Nat → Int) : List (Int × Int) := tabG (cnt s) (fun i => (0, (i : Int) / rowN s * rowN s + F i))
set_option maxRecDepth 100000 in
set_option maxHeartbeats 1000000 in
theorem along_any (D : Nat → Prop) (gt : Nat) (lbt : Array Value) (v : Value) (s : List Int) (F : Nat → Int) (w : World) (ho : Ls w v s) (hd : ∀ q, v.ownBlock = some q → D q) (hsh : shB s = true) (hto : ToAt w D gt lbt (rowN s) (cnt s) F) (hF : ∀ i, i < cnt s → 0 ≤ F i ∧ F i ≤ 4096) :
    Calls Try.prog 52 #[.agg #[v], .func (.func gt) #[] lbt] w (GaveWD D w ⟨s, alongG s F, 0⟩) := by
  obtain ⟨ao, c, rfl, _⟩ := ho.form
  have hC0 := (((Chg.refl (fun _ => False) w).alloc (.cells #[.slice ao s.length c] 69)).alloc (.cells #[.func (.func gt) #[] lbt] 75)).alloc (.cells #[.slice none 0 0, .nilFunc] 31)
  have y0 := alloc_cell (alloc_cell (new_cell w #[.slice ao s.length c] 69 (i := 0) rfl) (.cells #[.func (.func gt) #[] lbt] 75)) (.cells #[.slice none 0 0, .nilFunc] 31)
  have y1 := alloc_cell (new_cell (w.alloc (.cells #[.slice ao s.length c] 69)) #[.func (.func gt) #[] lbt] 75 (i := 0) rfl) (.cells #[.slice none 0 0, .nilFunc] 31)
  have z0 := new_cell ((w.alloc (.cells #[.slice ao s.length c] 69)).alloc (.cells #[.func (.func gt) #[] lbt] 75)) #[.slice none 0 0, .nilFunc] 31 (i := 0) rfl
  have z1 := new_cell ((w.alloc (.cells #[.slice ao s.length c] 69)).alloc (.cells #[.func (.func gt) #[] lbt] 75)) #[.slice none 0 0, .nilFunc] 31 (i := 1) rfl
  have f0 := new_frozen ((w.alloc (.cells #[.slice ao s.length c] 69)).alloc (.cells #[.func (.func gt) #[] lbt] 75)) #[.slice none 0 0, .nilFunc] 31 0
  have f1 := new_frozen ((w.alloc (.cells #[.slice ao s.length c] 69)).alloc (.cells #[.func (.func gt) #[] lbt] 75)) #[.slice none 0 0, .nilFunc] 31 1
  simp only [World.size_alloc] at y1 z0 z1 f0 f1
  have hrow := row_any _ s _ (ho.fr hC0) (by have := (shB_iff.1 hsh).1; omega)
  obtain ⟨m, hm⟩ : ∃ m, rowN s = m := ⟨_, rfl⟩
  have HG := Lib.hid (show alongG s F = tabG (cnt s) (fun i => (0, (i : Int) / m * m + F i)) by unfold alongG; rw [hm])
  rw [hm] at hrow hto
  have HM := Lib.hid hm
  have HO := Lib.hid ho
  have HT := Lib.hid hto
  have HF := Lib.hid hF
  clear ho hto hF hm
  go_enter Try.func52, Try.ntmps52
  go_wp2_with fail
  refine hrow.mono ?_
  clear hrow
  rintro e9 w1 ⟨rfl, hC1⟩
  replace f0 := hC1.frozen z0 f0 id
  replace f1 := hC1.frozen z1 f1 id
  replace y0 := hC1.cell y0 id
  replace y1 := hC1.cell y1 id
  replace z0 := hC1.cell z0 id
  replace z1 := hC1.cell z1 id
  obtain ⟨g0, g1⟩ := set2_cells (.slice ao s.length c) (.func (.func 80) #[] #[.pointer (some ⟨w1.heap.size, 0, none⟩), .pointer (some ⟨w.heap.size + 1, 0, none⟩)]) z0 z1
  replace g0 := alloc_cell g0 (.cells #[.int .i64 m] 3)
  replace g1 := alloc_cell g1 (.cells #[.int .i64 m] 3)
  have HY := Lib.hid y1
  have HC1 := Lib.hid (hC0.tr hC1)
  have hsz : w.heap.size + 1 + 1 < w1.heap.size := cell_lt z0
  have hsz1 : w.heap.size + 1 < w1.heap.size := by omega
  have hsz0 : w.heap.size < w1.heap.size := by omega
  clear hC1 hC0
  go_wp2
  simp [bodyPost, results, Try.results52, go_sem, g0, g1]
  obtain ⟨W2, hW2⟩ : ∃ W2, (w1.setCell ⟨w.heap.size + 1 + 1, 0, none⟩ (.slice ao s.length c)).setCell ⟨w.heap.size + 1 + 1, 1, none⟩ (.func (.func 80) #[] #[.pointer (some ⟨w1.heap.size, 0, none⟩), .pointer (some ⟨w.heap.size + 1, 0, none⟩)]) = W2 := ⟨_, rfl⟩
  have hs2 : W2.heap.size = w1.heap.size := by rw [← hW2]; simp
  have hC2 : Chg (fun _ => False) w W2 := by rw [← hW2]; exact (HC1.out.setCell (p := ⟨w.heap.size + 1 + 1, 0, none⟩) (.inr (by simp only []; omega)) _).setCell (p := ⟨w.heap.size + 1 + 1, 1, none⟩) (.inr (by simp only []; omega)) _
  have c1 : W2.cell? ⟨w.heap.size + 1, 0, none⟩ = some (.func (.func gt) #[] lbt) := by
    rw [← hW2, World.cell?_setCell_other _ _ _ _ (by simp), World.cell?_setCell_other _ _ _ _ (by simp)]
    exact HY.out
  rw [hW2]
  have hCf := hC2.alloc (.cells #[.int .i64 m] 3)
  replace c1 := alloc_cell c1 (.cells #[.int .i64 m] 3)
  have c0 := new_cell W2 #[.int .i64 m] 3 (i := 0) rfl
  rw [hs2] at c0
  refine ⟨_, fun k => D k ∨ w.heap.size ≤ k, rfl, .inl ⟨rfl, _, _, _, rfl, HO.out.fr hCf, fun q hq => .inl (hd q hq), enters_of Try.func80 (by kernel_rfl) rfl, fun i x hx w' hw' => ?_⟩, fun _ h => h, hCf⟩
  simp only at hx
  rw [HG.out] at hx
  obtain ⟨hi, rfl⟩ := tabG_at hx
  obtain ⟨p1, p2, p3⟩ := ediv_lt_cnt hsh hi
  rw [HM.out] at p1 p2
  obtain ⟨q1, q2⟩ := HF.out i hi
  exact along1_any w1.heap.size (w.heap.size + 1) gt lbt i m (F i) _ _ w' (hw'.cell c0 (.inr (by simp only []; omega))) (hw'.cell c1 (.inr (by simp only []; omega))) p1 p2 p3 q1 q2 rfl rfl HT.out.1 (fun w2 h2 => HT.out.2 i hi w2 (((OldC.of hCf).trans (hw'.sub (fun k h => .inl h))).trans (.of h2)))
end Go.Proofs.Ytmmbdhfljabefaa
