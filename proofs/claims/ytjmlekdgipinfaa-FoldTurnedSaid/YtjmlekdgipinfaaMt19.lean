/- turn: the way by axes. -/
import Derived.Test.YtjmlekdgipinfaaMt18
import Derived.Deep.DeepCutAuto
import Derived.Laws.EntriesVeiled
import Derived.Deep.OwnRows
import Derived.BigRegion
namespace Go.Proofs.Ytjmlekdgipinfaa
open Go.RowKit Go.Shelf

/-- A row of numbers of one's own, all of a block. -/
def RowW (w : World) (b : Nat) (xs : List Int) : Prop := Ls w (.slice (some ⟨b, 0, none⟩) xs.length xs.length) xs ∧ ∀ j, j < xs.length → w.frozen? ⟨b, j, none⟩ = false
theorem RowW.chg {S : Nat → Prop} {w w' : World} {b : Nat} {xs : List Int} (h : RowW w b xs) (hC : Chg S w w') (hn : ¬ S b) : RowW w' b xs := by
  refine ⟨Ls.chg h.1 hC (fun k hk => by simp [Value.ownBlock] at hk; subst hk; exact hn), fun j hj => ?_⟩
  obtain ⟨b', o, c, e, hc⟩ := h.1.at hj
  injection e with e _ _
  injection e with e
  injection e with e1 e2 _
  subst e1 e2
  rw [Nat.zero_add] at hc
  exact hC.frozen hc (h.2 j hj) hn
theorem RowW.set {w : World} {b : Nat} {xs : List Int} (h : RowW w b xs) (j : Nat) (y : Int) : RowW (w.setCell ⟨b, j, none⟩ (.int .i64 y)) b (xs.set j y) := by
  have h1 := ls_set h.1 j y
  rw [Nat.zero_add] at h1
  refine ⟨by rw [List.length_set]; exact h1, fun i hi => ?_⟩
  rw [List.length_set] at hi
  rw [World.frozen?_setCell]
  exact h.2 i hi
theorem RowW.off {w : World} {b b' : Nat} {xs : List Int} (h : RowW w b xs) (j : Nat) (u : Value) (hne : b ≠ b') : RowW (w.setCell ⟨b', j, none⟩ u) b xs := h.chg (chg_at w b' j u) hne
theorem RowW.cell {w : World} {b : Nat} {xs : List Int} (h : RowW w b xs) {j : Nat} (hj : j < xs.length) : w.cell? ⟨b, j, none⟩ = some (.int .i64 xs[j]) := by
  obtain ⟨b', o, c, e, hc⟩ := h.1.at hj
  injection e with e _ _
  injection e with e
  injection e with e1 e2 _
  subst e1 e2
  rw [Nat.zero_add] at hc
  exact hc
theorem RowW.of_heap {w : World} {b r : Nat} {t : TypeId} (h : w.heap[b]? = some (.cells (madeCells #[.int .i64 0] r) t)) (hr : r ≤ 4096) : RowW w b (List.replicate r 0) := by
  have hs : (madeCells #[Value.int .i64 0] r).size = r := size_madeCells _ _
  have hcell : ∀ j, j < r → w.cell? ⟨b, j, none⟩ = some (.int .i64 0) := fun j hj => by
    unfold World.cell?
    rw [h]
    simp [madeCells, hj, Nat.mod_one]
  refine ⟨⟨⟨some ⟨b, 0, none⟩, r, by simp, by simp, by simp [maxLen]; omega, by simp⟩, fun j u hu => ?_⟩, fun j hj => ?_⟩
  · rw [List.map_replicate, List.getElem?_replicate] at hu
    split at hu
    · rename_i hj
      injection hu with hu
      subst hu
      exact ⟨b, 0, r, by simp, by rw [Nat.zero_add]; exact hcell j hj⟩
    · cases hu
  · unfold World.frozen?
    rw [h]
    simp
theorem al4 (w : World) (o0 o1 o2 o3 : Obj) : let W := (((w.alloc o0).alloc o1).alloc o2).alloc o3
    W.heap[w.heap.size]? = some o0 ∧ W.heap[w.heap.size + 1]? = some o1 ∧ W.heap[w.heap.size + 2]? = some o2 ∧ W.heap[w.heap.size + 3]? = some o3 := by
  simp only []
  have h0 := heap_alloc_new w o0
  have h1 := heap_alloc_new (w.alloc o0) o1
  have h2 := heap_alloc_new ((w.alloc o0).alloc o1) o2
  have h3 := heap_alloc_new (((w.alloc o0).alloc o1).alloc o2) o3
  simp only [World.size_alloc] at h1 h2 h3
  refine ⟨?_, ?_, ?_, h3⟩
  · rw [Below.heap_alloc _ _ _ (by simp <;> omega), Below.heap_alloc _ _ _ (by simp <;> omega), Below.heap_alloc _ _ _ (by simp)]; exact h0
  · rw [Below.heap_alloc _ _ _ (by simp <;> omega), Below.heap_alloc _ _ _ (by simp)]; exact h1
  · rw [Below.heap_alloc _ _ _ (by simp)]; exact h2
theorem cell_heap {w : World} {b : Nat} {v : Value} {t : TypeId} (h : w.heap[b]? = some (.cells #[v] t)) : w.cell? ⟨b, 0, none⟩ = some v := by
  unfold World.cell?
  rw [h]
  rfl
theorem cellD {w : World} {b : Nat} {v : Value} {t : TypeId} (h : w.heap[b]? = some (.cells #[v] t)) : w.drew.cell? ⟨b, 0, none⟩ = some v := cell_heap (w := w) h
theorem prodL_drop_le {s : List Int} (hpos : ∀ l ∈ s, 0 < l) (i : Nat) : 0 ≤ prodL (s.drop i) ∧ prodL (s.drop i) ≤ prodL s := by
  have h1 := prodL_nonneg (s.drop i) (fun l hl => Int.le_of_lt (hpos l (List.mem_of_mem_drop hl)))
  have h2 : 0 < prodL (s.take i) := by
    have : ∀ (r : List Int), (∀ l ∈ r, 0 < l) → 0 < prodL r := fun r => by
      induction r with
      | nil => intro _; decide
      | cons x r ih => intro h; exact Int.mul_pos (h x (by simp)) (ih (fun l hl => h l (by simp [hl])))
    exact this _ (fun l hl => hpos l (List.mem_of_mem_take hl))
  have h3 : prodL s = prodL (s.take i) * prodL (s.drop i) := by rw [← prodL_append, List.take_append_drop]
  refine ⟨h1, ?_⟩
  rw [h3]
  have := Int.mul_le_mul_of_nonneg_right (show (1 : Int) ≤ prodL (s.take i) by omega) h1
  omega
theorem strL_bd {s : List Int} {p : List Nat} (hp : p.Perm (List.range s.length)) (hsh : shB s = true) (hpos : ∀ l ∈ s, 0 < l) : ∀ x ∈ strL s p, 0 ≤ x ∧ x ≤ 4096 := by
  intro x hx
  obtain ⟨a, ha, rfl⟩ := List.getElem_of_mem hx
  rw [strL_length] at ha
  obtain ⟨i, hi, he⟩ := List.getElem_of_mem (hp.mem_iff.2 (List.mem_range.2 ha))
  have hil : i < s.length := by have := (perm_facts hp).1; omega
  have h1 := strL_get hp hil
  rw [show p.getD i 0 = a by rw [List.getD, List.getElem?_eq_getElem hi]; exact he] at h1
  rw [List.getElem?_eq_getElem (by rw [strL_length]; exact ha)] at h1
  rw [Option.some.inj h1]
  have h2 := prodL_drop_le hpos (i + 1)
  have := (shB_iff.1 hsh).2.2
  omega
theorem by_fn (w : World) (D : Nat → Prop) (b1 x6 x7 bS bT : Nat) (a : Option Addr) (c : Nat) (s : List Int) (p : List Nat) (hp : p.Perm (List.range s.length)) (hsh : shB s = true)
    (c1 : w.cell? ⟨b1, 0, none⟩ = some (.slice a s.length c)) (c6 : w.cell? ⟨x6, 0, none⟩ = some (.slice (some ⟨bS, 0, none⟩) s.length s.length)) (c7 : w.cell? ⟨x7, 0, none⟩ = some (.slice (some ⟨bT, 0, none⟩) s.length s.length))
    (hS : RowW w bS (outL s p)) (hT : RowW w bT (strL s p)) (mS : bS < w.heap.size) (mT : bT < w.heap.size) (D1 : D b1) (D6 : D x6) (D7 : D x7) (DS : D bS) (DT : D bT) :
    FnAt w D 140 #[.pointer (some ⟨b1, 0, none⟩), .pointer (some ⟨x6, 0, none⟩), .pointer (some ⟨x7, 0, none⟩)] (axG s p) := by
  refine ⟨enters_of Try.func140 (by kernel_rfl) rfl, fun i x hx w' hw' => ?_⟩
  obtain ⟨hi, rfl⟩ := tabG_at hx
  have hc := cnt_int s
  rw [cntN_ok hsh] at hc
  have hs := shB_iff.1 hsh
  have hpos := pos_of_prod (s := s) (fun l hl => (hs.2.1 l hl).1) (by omega)
  have ho := outL_perm hp
  have hSl := hS.1
  have hTl := hT.1
  rw [outL_length] at hSl
  rw [strL_length] at hTl
  have hby := by1_any b1 x6 x7 a c (.slice (some ⟨bS, 0, none⟩) s.length s.length) (.slice (some ⟨bT, 0, none⟩) s.length s.length) (outL s p) (strL s p) i w' (by rw [outL_length]; exact hw'.cell c1 D1) (hw'.cell c6 D6) (hw'.cell c7 D7)
    (Ls.chg hSl hw' (fun k hk h => h (by simp [Value.ownBlock] at hk; subst hk; exact DS))) (Ls.chg hTl hw' (fun k hk h => h (by simp [Value.ownBlock] at hk; subst hk; exact DT))) (by rw [strL_length, outL_length]) (by rw [shB_perm ho]; exact hsh) (strL_bd hp hsh hpos) (by omega) (by rw [prodL_perm ho]; omega)
    (fun k hk => by simp [Value.ownBlock] at hk; have := Chg.size hw'; omega) (fun k hk => by simp [Value.ownBlock] at hk; have := Chg.size hw'; omega)
  rw [placeF_eq hp] at hby
  exact hby
set_option maxRecDepth 100000 in
set_option maxHeartbeats 20000000 in
theorem by_any (v vt : Value) (s : List Int) (p : List Nat) (w : World) (hS : Ls w v s) (hT : Ls w vt (p.map (fun (a : Nat) => (a : Int)))) (hsh : shB s = true) (hp : p.Perm (List.range s.length)) (hvl : ∀ q, v.ownBlock = some q → q < w.heap.size) (hvl2 : ∀ q, vt.ownBlock = some q → q < w.heap.size) :
    Calls Try.prog 138 #[.agg #[v], vt] w (GaveW w ⟨outL s p, axG s p, 0⟩) := by
  obtain ⟨hpl, hpn, hpb⟩ := perm_facts hp
  obtain ⟨ao, c, rfl, _⟩ := hS.form
  obtain ⟨at', ct, rfl, _⟩ := hT.form
  rw [List.length_map, hpl] at hT hvl2 ⊢
  have hl4 := (shB_iff.1 hsh).1
  have hC0 := (((Chg.refl (fun _ => False) w).alloc (.cells #[.slice ao s.length c] 140)).alloc (.cells #[.slice at' s.length ct] 22)).alloc (.cells #[.slice none 0 0, .nilFunc] 133)
  obtain ⟨w0, hw0⟩ : ∃ w0, ((w.alloc (.cells #[.slice ao s.length c] 140)).alloc (.cells #[.slice at' s.length ct] 22)).alloc (.cells #[.slice none 0 0, .nilFunc] 133) = w0 := ⟨_, rfl⟩
  have y0 := alloc_cell (nn0 w (.slice ao s.length c) (.slice at' s.length ct) 140 22) (.cells #[.slice none 0 0, .nilFunc] 133)
  have y1 := alloc_cell (nn1 w (.slice ao s.length c) (.slice at' s.length ct) 140 22) (.cells #[.slice none 0 0, .nilFunc] 133)
  have z0 := new_cell ((w.alloc (.cells #[.slice ao s.length c] 140)).alloc (.cells #[.slice at' s.length ct] 22)) #[.slice none 0 0, .nilFunc] 133 (i := 0) rfl
  have z1 := new_cell ((w.alloc (.cells #[.slice ao s.length c] 140)).alloc (.cells #[.slice at' s.length ct] 22)) #[.slice none 0 0, .nilFunc] 133 (i := 1) rfl
  have f0 := new_frozen ((w.alloc (.cells #[.slice ao s.length c] 140)).alloc (.cells #[.slice at' s.length ct] 22)) #[.slice none 0 0, .nilFunc] 133 0
  have f1 := new_frozen ((w.alloc (.cells #[.slice ao s.length c] 140)).alloc (.cells #[.slice at' s.length ct] 22)) #[.slice none 0 0, .nilFunc] 133 1
  simp only [World.size_alloc] at z0 z1 f0 f1
  rw [hw0] at y0 y1 z0 z1 f0 f1 hC0
  have hs0 : w0.heap.size = w.heap.size + 3 := by rw [← hw0]; simp
  have hmk := fun w => run_make_row' (P := Try.prog) 22 3 (.int .i64 0) 8 Try.underlying22 info_int rfl .i64 .i64 s.length (by omega) (by omega) w
  have HMC := Lib.hid (show ∀ (W : World) (b : Nat) (t : TypeId), W.heap[b]? = some (.cells (madeCells #[.int .i64 0] s.length) t) → RowW W b (List.replicate s.length 0) from fun W b t h => RowW.of_heap h (by omega))
  generalize madeCells #[.int .i64 0] s.length = MC at *
  have HW0 := Lib.hid hw0
  have HS := Lib.hid (hS.fr hC0)
  have HT := Lib.hid (hT.fr hC0)
  have HC0 := Lib.hid hC0
  have HP := Lib.hid hp
  have HSH := Lib.hid hsh
  have y00 : w.heap.size < w0.heap.size := by omega
  have y01 : w.heap.size + 1 < w0.heap.size := by omega
  have y02 : w.heap.size + 2 < w0.heap.size := by omega
  have HS0 := Lib.hid hs0
  have HVL := Lib.hid (show ∀ q, (Value.slice ao s.length c).ownBlock = some q → q < w0.heap.size from fun q hq => by have := hvl q hq; omega)
  have HVL2 := Lib.hid (show ∀ q, (Value.slice at' s.length ct).ownBlock = some q → q < w0.heap.size from fun q hq => by have := hvl2 q hq; omega)
  have HBD := Lib.hid (shB_iff.1 hsh).2.1
  clear hvl hvl2
  clear hS hT hC0 hw0 hp hsh hs0
  go_enter Try.func138, Try.ntmps138
  go_wp2
  rw [HW0.out]
  go_cut [6, 7] (fun s6 s7 wx => ∃ x6 x7 bS bT, s6 = .pointer (some ⟨x6, 0, none⟩) ∧ s7 = .pointer (some ⟨x7, 0, none⟩) ∧ wx.cell? ⟨x6, 0, none⟩ = some (.slice (some ⟨bS, 0, none⟩) s.length s.length) ∧ wx.cell? ⟨x7, 0, none⟩ = some (.slice (some ⟨bT, 0, none⟩) s.length s.length) ∧ RowW wx bS (List.replicate s.length 0) ∧ RowW wx bT (List.replicate s.length 0) ∧ bS ≠ bT ∧ x6 ≠ bS ∧ x6 ≠ bT ∧ x7 ≠ bS ∧ x7 ≠ bT ∧ w0.heap.size ≤ x6 ∧ w0.heap.size ≤ x7 ∧ w0.heap.size ≤ bS ∧ w0.heap.size ≤ bT ∧ bS < wx.heap.size ∧ bT < wx.heap.size ∧ Chg (fun _ => False) w0 wx)
  case first =>
    go_region
    all_goals go_wp2
    all_goals go_meet
    all_goals
      refine ⟨_, _, ?_, ?_, rfl, rfl, cellD (t := 22) ?_, cellD (t := 22) ?_, ?_⟩
      all_goals try (first | exact (al4 w0 _ _ _ _).1 | exact (al4 w0 _ _ _ _).2.1 | exact (al4 w0 _ _ _ _).2.2.1 | exact (al4 w0 _ _ _ _).2.2.2)
      · refine ⟨(HMC.out _ _ 3 ?_).chg (Chg.refl (fun _ => False) _).drew id, (HMC.out _ _ 3 ?_).chg (Chg.refl (fun _ => False) _).drew id, by omega, by omega, by omega, by omega, by omega, by omega, by omega, by omega, by omega, (by show _ < ((((w0.alloc _).alloc _).alloc _).alloc _).heap.size; simp <;> omega), (by show _ < ((((w0.alloc _).alloc _).alloc _).alloc _).heap.size; simp <;> omega), ((((Chg.refl _ w0).alloc _).alloc _).alloc _).alloc _ |>.drew⟩
        · first | exact (al4 w0 _ _ _ _).1 | exact (al4 w0 _ _ _ _).2.1 | exact (al4 w0 _ _ _ _).2.2.1 | exact (al4 w0 _ _ _ _).2.2.2
        · first | exact (al4 w0 _ _ _ _).1 | exact (al4 w0 _ _ _ _).2.1 | exact (al4 w0 _ _ _ _).2.2.1 | exact (al4 w0 _ _ _ _).2.2.2
  case rest =>
    obtain ⟨x6, x7, bS, bT, rfl, rfl, c6, c7, hRS, hRT, d1, d2, d3, d4, d5, l6, l7, lS, lT, mS, mT, hCc⟩ := hcut
    replace y0 := hCc.cell y0 id
    replace y1 := hCc.cell y1 id
    replace f0 := hCc.frozen z0 f0 id
    replace f1 := hCc.frozen z1 f1 id
    replace z0 := hCc.cell z0 id
    replace z1 := hCc.cell z1 id
    have HCc := Lib.hid hCc
    have hwl : IntKind.i64.wrap ((s.length : Int) - 1) = (s.length : Int) - 1 := IntWalk.i64_in _ (by omega)
    have HS2 := Lib.hid (HS.out.fr hCc)
    have HT2 := Lib.hid (HT.out.fr hCc)
    clear hCc
    go_wp2
    go_loopw [8, 9] (fun b8 i wr => ∃ (j : Nat) (q : Int), j ≤ s.length ∧ i = .int .i64 q ∧ q = (s.length : Int) - 1 - j ∧ (∃ B, B = prodL (s.drop (s.length - j)) ∧ b8 = .int .i64 B) ∧ RowW wr bS (stS s p j) ∧ RowW wr bT (stT s p j) ∧ Chg (fun q => q = bS ∨ q = bT) wc wr) (fun _ i _ => (intOf i + 1).toNat)
    case atStart => exact ⟨0, _, Nat.zero_le _, rfl, by omega, ⟨1, by rw [Nat.sub_zero, List.drop_length]; rfl, rfl⟩, hRS, hRT, Chg.refl _ _⟩
    case round =>
      obtain ⟨j, q, hj, rfl, hq, ⟨B, hB, rfl⟩, hRS', hRT', hC⟩ := hrel
      by_cases hlt : j < s.length
      · obtain ⟨i, hij⟩ : ∃ i, i + j + 1 = s.length := ⟨s.length - 1 - j, by omega⟩
        obtain rfl : q = (i : Int) := by omega
        have hil : i < s.length := by omega
        have hil' : (i : Int) < (s.length : Int) := by omega
        have hi0 : (0 : Int) ≤ (i : Int) := by omega
        rw [show s.length - j = i + 1 by omega] at hB
        have nv : ∀ k, (Value.slice ao s.length c).ownBlock = some k → ¬ (k = bS ∨ k = bT) := fun k hk h => by have := HVL.out k hk; omega
        have nv2 : ∀ k, (Value.slice at' s.length ct).ownBlock = some k → ¬ (k = bS ∨ k = bT) := fun k hk h => by have := HVL2.out k hk; omega
        obtain ⟨bo, oo, co, e1, hco⟩ := (HS2.out.chg hC nv).at hil
        obtain ⟨bt, ot, cot, e2, hct⟩ := (HT2.out.chg hC nv2).at (j := i) (by rw [List.length_map, hpl]; exact hil)
        rw [List.length_map, hpl] at e2
        injection e1 with e1 e3 e4
        injection e2 with e2 e5 e6
        clear e3 e4 e5 e6
        subst e1 e2
        have hip : i < p.length := by omega
        rw [List.getElem_map] at hct
        have ha := hpb _ (List.getElem_mem hip)
        have hpg : p.getD i 0 = p[i] := by rw [List.getD, List.getElem?_eq_getElem hip]; rfl
        have hsg : s.getD i 0 = s[i] := by rw [List.getD, List.getElem?_eq_getElem hil]; rfl
        have HSS := Lib.hid (show stS s p (j + 1) = (stS s p j).set p[i] s[i] by rw [stS, show s.length - 1 - j = i by omega, hpg, hsg])
        have HST := Lib.hid (show stT s p (j + 1) = (stT s p j).set p[i] B by rw [stT, show s.length - 1 - j = i by omega, hpg, show s.length - j = i + 1 by omega, hB])
        have hBn : B * s[i] = prodL (s.drop i) := by rw [List.drop_eq_getElem_cons hil, prodL, hB, Int.mul_comm]
        have hbd : 0 ≤ prodL (s.drop i) ∧ prodL (s.drop i) ≤ 281474976710656 := by
          have h1 : ∀ l ∈ s.drop i, 0 ≤ l ∧ l ≤ 4096 := fun l hl => HBD.out l (List.mem_of_mem_drop hl)
          refine ⟨prodL_nonneg _ (fun l hl => (h1 l hl).1), Int.le_trans (prodL_le _ h1) ?_⟩
          have hm : (s.drop i).length ≤ 4 := by rw [List.length_drop]; omega
          generalize (s.drop i).length = m at hm
          have h5 : m = 0 ∨ m = 1 ∨ m = 2 ∨ m = 3 ∨ m = 4 := by omega
          rcases h5 with h | h | h | h | h <;> (rw [h]; decide)
        have hS1 := hRS'.cell (j := p[i]) (by rw [stS_length]; exact ha)
        have hS2 := hRS'.2 p[i] (by rw [stS_length]; exact ha)
        have hT1 := hRT'.cell (j := p[i]) (by rw [stT_length]; exact ha)
        have hT2 := hRT'.2 p[i] (by rw [stT_length]; exact ha)
        generalize s[i] = x at *
        generalize p[i] = a at *
        obtain ⟨B', hB'⟩ : ∃ B', B * x = B' := ⟨_, rfl⟩
        rw [hB'] at hBn
        rw [← hBn] at hbd
        have hwB : IntKind.i64.wrap B' = B' := IntWalk.i64_in _ (by omega)
        have hwB2 : IntKind.i64.wrap (B * x) = B' := by rw [hB']; exact hwB
        have hwi : IntKind.i64.wrap ((i : Int) - 1) = (i : Int) - 1 := IntWalk.i64_in _ (by omega)
        have HBN := Lib.hid hBn
        have KP := Lib.hid (show ∀ w', Chg (fun q => q = bS ∨ q = bT) wr w' → (w'.cell? ⟨x6, 0, none⟩ = some (.slice (some ⟨bS, 0, none⟩) s.length s.length) ∧ w'.cell? ⟨x7, 0, none⟩ = some (.slice (some ⟨bT, 0, none⟩) s.length s.length) ∧ w'.cell? ⟨w.heap.size, 0, none⟩ = some (.slice (some ⟨bo, oo, none⟩) s.length c) ∧ w'.cell? ⟨w.heap.size + 1, 0, none⟩ = some (.slice (some ⟨bt, ot, none⟩) s.length ct) ∧ w'.cell? ⟨bo, oo + i, none⟩ = some (.int .i64 x) ∧ w'.cell? ⟨bt, ot + i, none⟩ = some (.int .i64 (a : Int)))
          from fun w' h => ⟨h.cell (hC.cell c6 (by simp; omega)) (by simp; omega), h.cell (hC.cell c7 (by simp; omega)) (by simp; omega), h.cell (hC.cell y0 (by simp; omega)) (by simp; omega), h.cell (hC.cell y1 (by simp; omega)) (by simp; omega), h.cell hco (nv bo rfl), h.cell hct (nv2 bt rfl)⟩)
        obtain ⟨k1, k2, k3, k4, k5, k6⟩ := KP.out wr (Chg.refl _ _)
        have HR1 := Lib.hid hRS'
        have HR2 := Lib.hid hRT'
        have HIJ := Lib.hid hij
        have ha0 : (0 : Int) ≤ (a : Int) := by omega
        have ha1 : (a : Int) < (s.length : Int) := by omega
        clear hq hB hBn hB' hbd hpg hsg hij hct hco nv nv2
        go_wp2_with fail
        go_region_held3 (fun w' => w'.cell? ⟨x6, 0, none⟩ = some (.slice (some ⟨bS, 0, none⟩) s.length s.length) ∧ w'.cell? ⟨x7, 0, none⟩ = some (.slice (some ⟨bT, 0, none⟩) s.length s.length) ∧ w'.cell? ⟨w.heap.size, 0, none⟩ = some (.slice (some ⟨bo, oo, none⟩) s.length c) ∧ w'.cell? ⟨w.heap.size + 1, 0, none⟩ = some (.slice (some ⟨bt, ot, none⟩) s.length ct) ∧ w'.cell? ⟨bo, oo + i, none⟩ = some (.int .i64 x) ∧ w'.cell? ⟨bt, ot + i, none⟩ = some (.int .i64 (a : Int))) ((refine KP.out _ ?_; repeat (first | (with_reducible exact Chg.refl _ _) | (with_reducible refine Chg.drew ?_) | (refine Chg.setCell ?_ (.inl (by simp)) _)))) (fail)
        have hC5 : Chg (fun q => q = bS ∨ q = bT) wr ((wr.setCell ⟨bS, a, none⟩ (.int .i64 x)).setCell ⟨bT, a, none⟩ (.int .i64 B)).drew := (((Chg.refl _ wr).setCell (.inl (by simp)) _).setCell (.inl (by simp)) _).drew
        have hS5 : RowW ((wr.setCell ⟨bS, a, none⟩ (.int .i64 x)).setCell ⟨bT, a, none⟩ (.int .i64 B)).drew bS ((stS s p j).set a x) := ((HR1.out.set a x).off a _ d1).chg (Chg.refl (fun _ => False) _).drew id
        have hT5 : RowW ((wr.setCell ⟨bS, a, none⟩ (.int .i64 x)).setCell ⟨bT, a, none⟩ (.int .i64 B)).drew bT ((stT s p j).set a B) := ((HR2.out.off a _ (fun e => d1 e.symm)).set a B).chg (Chg.refl (fun _ => False) _).drew id
        obtain ⟨w5, hw5⟩ : ∃ w5, ((wr.setCell ⟨bS, a, none⟩ (.int .i64 x)).setCell ⟨bT, a, none⟩ (.int .i64 B)).drew = w5 := ⟨_, rfl⟩
        rw [hw5] at hC5 hS5 hT5 ⊢
        clear hw5 k1 k2 k3 k4 k5 k6 hS1 hS2 hT1 hT2
        obtain ⟨k1, k2, k3, k4, k5, k6⟩ := KP.out w5 hC5
        have HS5 := Lib.hid hS5
        have HT5 := Lib.hid hT5
        have HC5 := Lib.hid (hC.trans hC5 (fun _ _ h => h) (fun _ _ h => h))
        clear hS5 hT5 hC5 hRS' hRT' hC
        go_wp2
        go_roundw
        case rel =>
          refine ⟨j + 1, _, hlt, rfl, by have := HIJ.out; omega, ⟨_, ?_, rfl⟩, by rw [HSS.out]; exact HS5.out, by rw [HST.out]; exact HT5.out, HC5.out⟩
          rw [show s.length - (j + 1) = i by have := HIJ.out; omega]
          exact HBN.out
        case measure => first | (simp [intOf]; done) | (simp [intOf]; omega)
      · obtain rfl : j = s.length := by omega
        have hq0 : ¬ 0 ≤ q := by omega
        have hzr := hC.cell z0 (by simp; omega)
        have hzr1 := hC.cell z1 (by simp; omega)
        have fr0 := hC.frozen z0 f0 (by simp; omega)
        have fr1 := hC.frozen z1 f1 (by simp; omega)
        have cr6 := hC.cell c6 (by simp; omega)
        have cr7 := hC.cell c7 (by simp; omega)
        have cr1 := hC.cell y1 (by simp; omega)
        have hszw : wc.heap.size ≤ wr.heap.size := hC.size
        have hfn := by_fn wr (fun k => k = w.heap.size + 1 ∨ w0.heap.size ≤ k) (w.heap.size + 1) x6 x7 bS bT at' ct s p HP.out HSH.out cr1 cr6 cr7 hRS' hRT' (by omega) (by omega) (.inl rfl) (.inr l6) (.inr l7) (.inr lS) (.inr lT)
        have hout : Ls wr (.slice (some ⟨bS, 0, none⟩) s.length s.length) (outL s p) := by
          have h := hRS'.1
          rw [stS_length] at h
          exact h
        have hW : WayAt wr (fun k => k = w.heap.size + 1 ∨ w0.heap.size ≤ k) (.agg #[.slice (some ⟨bS, 0, none⟩) s.length s.length, .func (.func 140) #[] #[.pointer (some ⟨w.heap.size + 1, 0, none⟩), .pointer (some ⟨x6, 0, none⟩), .pointer (some ⟨x7, 0, none⟩)]]) ⟨outL s p, axG s p, 0⟩ :=
          .inl ⟨rfl, _, _, _, rfl, hout, fun q hq => by simp [Value.ownBlock] at hq; exact .inr (by omega), hfn⟩
        obtain ⟨g0, g1⟩ := set2_cells (.slice (some ⟨bS, 0, none⟩) s.length s.length) (.func (.func 140) #[] #[.pointer (some ⟨w.heap.size + 1, 0, none⟩), .pointer (some ⟨x6, 0, none⟩), .pointer (some ⟨x7, 0, none⟩)]) hzr hzr1
        have HW := Lib.hid hW
        have HC9 := Lib.hid (show Chg (fun _ => False) w wr from (HC0.out.tr HCc.out).trans hC (fun _ _ h => h) (fun i hi h => by rcases h with h | h <;> omega))
        clear hq hB hC hRS' hRT' hfn hout hW
        go_wp2
        simp [bodyPost, results, Try.results138, go_sem, g0, g1]
        exact way_store (x := w.heap.size) HW.out (fun k hk => .inr (by rcases hk with hk | hk <;> omega)) (Nat.le_refl _) (by omega) (fun hk => by rcases hk with hk | hk <;> omega) HC9.out rfl
end Go.Proofs.Ytjmlekdgipinfaa
