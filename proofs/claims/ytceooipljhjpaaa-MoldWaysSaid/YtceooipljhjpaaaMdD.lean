/- mold: catenate's way. -/
import Derived.Test.YtceooipljhjpaaaMdC
import Derived.Deep.RegionLawGrows
import Derived.StillTailTactics
namespace Go.Proofs.Ytceooipljhjpaaa
open Go.RowKit Go.Shelf

def catS (a b : List Int) : List Int := sdF a b ++ [sdM a b + sdM b a]
def catG (a b : List Int) : List (Int × Int) := (List.range (cntN (catS a b)).toNat).map fun (i : Nat) => catP (decide (a = [])) (decide (b = [])) (sdM a b) (sdM b a) (i : Int)
def catW (a b : List Int) : Wy := if shB a && shB b then (if sdB a b then (if sdF a b = sdF b a then limW (catS a b) (catG a b) else noW 4) else noW 3) else noW 110
theorem sd_facts {a b : List Int} (ha : shB a = true) (hb : shB b = true) : (0 ≤ sdM a b ∧ sdM a b ≤ 4096) ∧ (sdF a b).length ≤ 4 := by
  obtain ⟨a1, a2, _⟩ := shB_iff.1 ha
  obtain ⟨b1, b2, _⟩ := shB_iff.1 hb
  have hl : ∀ s : List Int, (∀ l ∈ s, 0 ≤ l ∧ l ≤ 4096) → 0 ≤ lastN s ∧ lastN s ≤ 4096 := fun s h => by
    rcases nil_snoc s with rfl | ⟨f, m, rfl⟩
    · exact ⟨by decide, by decide⟩
    · rw [lastN_snoc]; exact h m (by simp)
  have hA := hl a a2
  have hd1 : a.dropLast.length ≤ 4 := by rw [List.length_dropLast]; omega
  have hd2 : b.dropLast.length ≤ 4 := by rw [List.length_dropLast]; omega
  unfold sdM sdF
  refine ⟨?_, ?_⟩
  · split
    · omega
    · split
      · exact hA
      · split <;> omega
  · split
    · exact hd2
    · split
      · exact hd1
      · split
        · exact a1
        · exact Nat.zero_le _
set_option maxRecDepth 100000 in
set_option maxHeartbeats 1000000 in
theorem catway_bad (u v : Value) (a b : List Int) (w : World) (hU : Ls w u a) (hV : Ls w v b) (hs : (shB a && shB b) = false) : Calls Try.prog 17 #[u, v] w (GaveW w (catW a b)) := by
  have HR := Lib.hid (show catW a b = noW 110 by unfold catW; rw [hs]; rfl)
  obtain ⟨au, cu, rfl, _⟩ := hU.form
  obtain ⟨av, cv, rfl, _⟩ := hV.form
  have hC0 := (Chg.refl (fun _ => False) w).alloc (.cells #[.slice none 0 0, .nilFunc] 31)
  have z0 := new_cell w #[.slice none 0 0, .nilFunc] 31 (i := 0) rfl
  have z1 := new_cell w #[.slice none 0 0, .nilFunc] 31 (i := 1) rfl
  have f0 := new_frozen w #[.slice none 0 0, .nilFunc] 31 0
  have f1 := new_frozen w #[.slice none 0 0, .nilFunc] 31 1
  have hc1 := count_any _ a _ (hU.fr hC0)
  have hc2 := count_any _ b _ (hV.fr hC0)
  unfold GaveC at hc1 hc2
  have HC0 := Lib.hid hC0
  clear hC0 hU hV
  cases ha : shB a with
  | false =>
    rw [cntE_not ha] at hc1
    clear hs ha
    go_enter Try.func17, Try.ntmps17
    go_wp2_with fail
    refine hc1.mono ?_
    clear hc1
    rintro e9 w1 ⟨rfl, rfl⟩
    go_wp2_with fail
    refine hc2.mono ?_
    clear hc2
    rintro e9 w1 ⟨rfl, hw1⟩
    have hC1 : Chg (fun _ => False) (w.alloc (.cells #[.slice none 0 0, .nilFunc] 31)) w1 := hw1 ▸ Chg.refl _ _
    clear hw1
    replace f0 := hC1.frozen z0 f0 id
    replace f1 := hC1.frozen z1 f1 id
    replace z0 := hC1.cell z0 id
    replace z1 := hC1.cell z1 id
    have HC := Lib.hid (HC0.out.tr hC1)
    clear hC1
    obtain ⟨g0, g1⟩ := mset2 (.slice none 0 0) .nilFunc z0 z1
    go_wp2
    simp [bodyPost, results, Try.results17, go_sem, g0, g1]
    rw [HR.out]
    exact mway_no (by decide) (Nat.le_refl _) HC.out
  | true =>
    have hb : shB b = false := by rw [ha] at hs; simpa using hs
    rw [cntE_ok ha] at hc1
    rw [cntE_not hb] at hc2
    clear hs ha hb
    go_enter Try.func17, Try.ntmps17
    go_wp2_with fail
    refine hc1.mono ?_
    clear hc1
    rintro e9 w1 ⟨rfl, rfl⟩
    go_wp2_with fail
    refine hc2.mono ?_
    clear hc2
    rintro e9 w1 ⟨rfl, hw1⟩
    have hC1 : Chg (fun _ => False) (w.alloc (.cells #[.slice none 0 0, .nilFunc] 31)) w1 := hw1 ▸ Chg.refl _ _
    clear hw1
    replace f0 := hC1.frozen z0 f0 id
    replace f1 := hC1.frozen z1 f1 id
    replace z0 := hC1.cell z0 id
    replace z1 := hC1.cell z1 id
    have HC := Lib.hid (HC0.out.tr hC1)
    clear hC1
    obtain ⟨g0, g1⟩ := mset2 (.slice none 0 0) .nilFunc z0 z1
    go_wp2
    simp [bodyPost, results, Try.results17, go_sem, g0, g1]
    rw [HR.out]
    exact mway_no (by decide) (Nat.le_refl _) HC.out
theorem Ls.hm {w : World} {ax : Option Addr} {n cx : Nat} {xs : List Int} (h : Ls w (.slice ax n cx) xs) (W : World) : (Instr.slice 22 (.slice ax n cx) none (some (.int .i64 n)) (some (.int .i64 n))).run Try.prog W = .ok (.slice ax n n) W := by
  obtain ⟨_, _, e, h1, _⟩ := h.form
  have hle : n ≤ cx := by cases e; exact h1
  have ht : Try.prog.underlying 22 = some (.slice 3) := Try.underlying22
  have he : Try.prog.elem 22 = 3 := by unfold Program.elem; rw [ht]
  have ht' : Try.prog.underlying 22 = some (.slice (Try.prog.elem 22)) := by rw [he]; exact ht
  rw [run_slice_hm W 22 ax n cx ht' .i64 .i64 n n (by omega) (by omega) (by omega), he, msizeOf_int]
  cases n with
  | zero => simp [sliced, Result.andThen]
  | succ n =>
    cases ax with
    | none => simp [sliced, Result.andThen]
    | some a => cases a; simp [sliced, Result.andThen, Addr.add]
theorem Ls.nn {w : World} {ax : Option Addr} {n cx : Nat} {xs : List Int} (h : Ls w (.slice ax n cx) xs) (ha : ax = none) : n = 0 ∧ n = 0 := by
  obtain ⟨_, _, e, h1, _, h3⟩ := h.form
  cases e
  have := h3 ha
  omega
theorem mchg_of {S : Nat → Prop} {w w' : World} (h : Chg (fun _ => False) w w') : Chg S w w' := Chg.mono h (fun _ _ h => h.elim)
theorem mchg_at {S : Nat → Prop} {w w' : World} (b i : Nat) (v : Value) (h : Chg S w w') (hb : S b) : Chg S w (w'.setCell ⟨b, i, none⟩ v) := h.setCell (p := ⟨b, i, none⟩) (.inl hb) v
theorem mchg_alloc {w w' : World} {o : Obj} (h : Chg (fun _ => False) w w') : Chg (fun _ => False) w (w'.alloc o) := h.alloc o
theorem mchg_drew {w w' : World} (h : Chg (fun _ => False) w w') : Chg (fun _ => False) w w'.drew := h.drew
theorem cat_al (w : World) (m : Nat) (hm : w.heap.size = m) (L : Int) (sa sb : Bool) (g : Value) (t1 t2 t3 : TypeId) :
    let W := ((w.alloc (.cells #[.int .i64 L] t1)).alloc (.cells #[.bool sa, .bool sb] t2)).alloc (.cells #[g] t3)
    W.cell? ⟨m, 0, none⟩ = some (.int .i64 L) ∧ W.cell? ⟨m + 1, 0, none⟩ = some (.bool sa) ∧ W.cell? ⟨m + 1, 1, none⟩ = some (.bool sb) ∧ W.cell? ⟨m + 1 + 1, 0, none⟩ = some g ∧ W.heap.size = m + 3 ∧ Chg (fun _ => False) w W := by
  subst hm
  have k1 := new_cell (w.alloc (.cells #[.int .i64 L] t1)) #[.bool sa, .bool sb] t2 (i := 0) rfl
  have k2 := new_cell (w.alloc (.cells #[.int .i64 L] t1)) #[.bool sa, .bool sb] t2 (i := 1) rfl
  have k3 := new_cell ((w.alloc (.cells #[.int .i64 L] t1)).alloc (.cells #[.bool sa, .bool sb] t2)) #[g] t3 (i := 0) rfl
  rw [World.size_alloc] at k1 k2
  rw [World.size_alloc, World.size_alloc] at k3
  exact ⟨alloc_cell (alloc_cell (new_cell w #[.int .i64 L] t1 (i := 0) rfl) _) _, alloc_cell k1 _, alloc_cell k2 _, k3, by simp, (((Chg.refl _ _).alloc _).alloc _).alloc _⟩
theorem cat_fnAt (a b F : List Int) (lx ly L : Int) (sa sb : Bool) (w : World) (D : Nat → Prop) (m p : Nat) (hF : sdF a b = F) (hX : sdM a b = lx) (hY : sdM b a = ly) (hL : lx + ly = L) (hA : decide (a = []) = sa) (hB : decide (b = []) = sb)
    (h0 : 0 ≤ lx ∧ lx ≤ 4096) (h1 : 0 ≤ ly ∧ ly ≤ 4096) (d1 : D m) (d2 : D p) (d3 : D (m + 1 + 1)) (d4 : D (p + 1)) (d5 : D (m + 1))
    (xl : w.cell? ⟨m, 0, none⟩ = some (.int .i64 L)) (xx : w.cell? ⟨p, 1, none⟩ = some (.int .i64 lx)) (xy : w.cell? ⟨p + 1, 1, none⟩ = some (.int .i64 ly))
    (xa : w.cell? ⟨m + 1 + 1, 0, none⟩ = some (.func (.func 71) #[] #[.pointer (some ⟨m + 1, 0, none⟩)])) (s0 : w.cell? ⟨m + 1, 0, none⟩ = some (.bool sa)) (s1 : w.cell? ⟨m + 1, 1, none⟩ = some (.bool sb)) (hsh : shB (F ++ [L]) = true) :
    FnAt w D 72 #[.pointer (some ⟨m, 0, none⟩), .pointer (some ⟨p, 0, none⟩), .pointer (some ⟨m + 1 + 1, 0, none⟩), .pointer (some ⟨p + 1, 0, none⟩)] (catG a b) := by
  refine ⟨fun _ _ => rfl, fun i x hx w' hO => ?_⟩
  unfold catG catS at hx
  rw [hF, hX, hY, hA, hB, hL, List.getElem?_map, Option.map_eq_some_iff] at hx
  obtain ⟨j, hj, rfl⟩ := hx
  rw [List.getElem?_eq_some_iff] at hj
  obtain ⟨hj1, hj2⟩ := hj
  rw [List.getElem_range] at hj2
  subst hj2
  rw [List.length_range] at hj1
  have hc := cntN_ok hsh
  have hb := cntN_bd (F ++ [L])
  have hpr : prodL (F ++ [L]) = prodL F * L := by rw [prodL_append]; simp [prodL]
  have hL0 : 0 < L := by
    have h2 := (shB_iff.1 hsh).2.1 L (by simp)
    rcases Int.lt_or_le 0 L with h | h
    · exact h
    · have : L = 0 := by omega
      rw [hc, hpr, this] at hj1
      simp at hj1
  subst hL
  exact catFn_any m p (m + 1 + 1) (p + 1) (m + 1) sa sb lx ly i w' (by omega) h0 h1 hL0 (hO.cell xl d1) (hO.cell xx d2) (hO.cell xy d4) (hO.cell xa d3) (hO.cell s0 d5) (hO.cell s1 d5)
theorem mway_agg {w : World} {D : Nat → Prop} {v : Value} {W : Wy} (h : WayAt w D v W) : ∃ x0 x1, v = .agg #[x0, x1] ∧ x0.oneCell' = true ∧ x1.oneCell' = true := by
  rcases h with ⟨_, vs, gf, lb, e, hs, _⟩ | ⟨_, _, _, e⟩
  · obtain ⟨_, _, rfl, _⟩ := hs.form
    exact ⟨_, _, e, rfl, rfl⟩
  · exact ⟨_, _, e, rfl, rfl⟩
set_option maxRecDepth 100000 in
set_option maxHeartbeats 2000000 in
theorem catway_ok (u v : Value) (a b : List Int) (w : World) (hU : Ls w u a) (hV : Ls w v b) (ha : shB a = true) (hb : shB b = true) : Calls Try.prog 17 #[u, v] w (GaveW w (catW a b)) := by
  have HL := Lib.hid (show a.length ≤ 1000000 ∧ b.length ≤ 1000000 from ⟨by have := (shB_iff.1 ha).1; omega, by have := (shB_iff.1 hb).1; omega⟩)
  obtain ⟨⟨fx1, fx2⟩, fx3⟩ := sd_facts ha hb
  obtain ⟨⟨fy1, fy2⟩, fy3⟩ := sd_facts hb ha
  have HW := Lib.hid (show catW a b = if sdB a b then (if sdF a b = sdF b a then limW (catS a b) (catG a b) else noW 4) else noW 3 by unfold catW; rw [ha, hb]; rfl)
  obtain ⟨au, cu, rfl, _⟩ := hU.form
  obtain ⟨av, cv, rfl, _⟩ := hV.form
  have hC0 := (Chg.refl (fun _ => False) w).alloc (.cells #[.slice none 0 0, .nilFunc] 31)
  have z0 := new_cell w #[.slice none 0 0, .nilFunc] 31 (i := 0) rfl
  have z1 := new_cell w #[.slice none 0 0, .nilFunc] 31 (i := 1) rfl
  have f0 := new_frozen w #[.slice none 0 0, .nilFunc] 31 0
  have f1 := new_frozen w #[.slice none 0 0, .nilFunc] 31 1
  have hc1 := count_any _ a _ (hU.fr hC0)
  have hc2 := count_any _ b _ (hV.fr hC0)
  unfold GaveC at hc1 hc2
  rw [cntE_ok ha] at hc1
  rw [cntE_ok hb] at hc2
  have HC0 := Lib.hid hC0
  have HU := Lib.hid hU
  have HV := Lib.hid hV
  have HA := Lib.hid (show (a = [] → cntN a = 1) ∧ (b = [] → cntN b = 1) from ⟨fun h => by subst h; decide, fun h => by subst h; decide⟩)
  clear hC0 hU hV ha hb
  obtain ⟨F, hF⟩ : ∃ F, sdF a b = F := ⟨_, rfl⟩
  obtain ⟨G, hG⟩ : ∃ G, sdF b a = G := ⟨_, rfl⟩
  obtain ⟨lx, hlx⟩ : ∃ x, sdM a b = x := ⟨_, rfl⟩
  obtain ⟨ly, hly⟩ : ∃ x, sdM b a = x := ⟨_, rfl⟩
  obtain ⟨bb, hbb⟩ : ∃ x, sdB a b = x := ⟨_, rfl⟩
  rw [hF] at fx3 HW
  rw [hG] at fy3 HW
  rw [hlx] at fx1 fx2
  rw [hly] at fy1 fy2
  rw [hbb] at HW
  have HF := Lib.hid hF
  have HG := Lib.hid hG
  have HX := Lib.hid hlx
  have HY := Lib.hid hly
  have HB := Lib.hid hbb
  have HFX := Lib.hid (show (0 ≤ lx ∧ lx ≤ 4096) ∧ (0 ≤ ly ∧ ly ≤ 4096) ∧ F.length ≤ 4 ∧ G.length ≤ 4 from ⟨⟨fx1, fx2⟩, ⟨fy1, fy2⟩, fx3, fy3⟩)
  clear hF hG hlx hly hbb fx1 fx2 fx3 fy1 fy2 fy3
  cases bb with
  | false =>
    have HR := Lib.hid (show catW a b = noW 3 from HW.out)
    go_enter Try.func17, Try.ntmps17
    go_wp2_with fail
    refine hc1.mono ?_
    clear hc1
    rintro e9 w1 ⟨rfl, rfl⟩
    go_wp2_with fail
    refine hc2.mono ?_
    clear hc2
    rintro e9 w2 ⟨rfl, hw2⟩
    have hC2 : Chg (fun _ => False) (w.alloc (.cells #[.slice none 0 0, .nilFunc] 31)) w2 := hw2 ▸ Chg.refl _ _
    clear hw2
    replace f0 := hC2.frozen z0 f0 id
    replace f1 := hC2.frozen z1 f1 id
    replace z0 := hC2.cell z0 id
    replace z1 := hC2.cell z1 id
    have h1 := cloneI_any _ a w2 (HU.out.fr (HC0.out.tr hC2)) HL.out.1
    replace HC0 := Lib.hid (HC0.out.tr hC2)
    clear hC2
    go_wp2_with fail
    refine h1.mono ?_
    clear h1
    rintro e9 w3 ⟨v3, rfl, ho3, hC3⟩
    obtain ⟨a3, c3, rfl⟩ := own_name ho3
    have h2 := cloneI_any _ b w3 (HV.out.fr (HC0.out.tr hC3)) HL.out.2
    replace f0 := hC3.frozen z0 f0 id
    replace f1 := hC3.frozen z1 f1 id
    replace z0 := hC3.cell z0 id
    replace z1 := hC3.cell z1 id
    have HO3 := Lib.hid ho3
    replace HC0 := Lib.hid (HC0.out.tr hC3)
    clear hC3 ho3
    go_wp2_with fail
    refine h2.mono ?_
    clear h2
    rintro e9 w4 ⟨v4, rfl, ho4, hC4⟩
    obtain ⟨a4, c4, rfl⟩ := own_name ho4
    have h3 := sides_any _ _ a b w4 (HO3.out.fr hC4).ls ho4.ls HL.out.2
    replace f0 := hC4.frozen z0 f0 id
    replace f1 := hC4.frozen z1 f1 id
    replace z0 := hC4.cell z0 id
    replace z1 := hC4.cell z1 id
    have HO4 := Lib.hid ho4
    replace HC0 := Lib.hid (HC0.out.tr hC4)
    clear hC4 ho4
    rw [HF.out, HG.out, HX.out, HY.out, HB.out] at h3
    unfold SidesP at h3
    go_wp2_with fail
    refine h3.mono ?_
    clear h3
    rintro e9 w5 ⟨vx, vy, rfl, hx, hy, hC5⟩
    obtain ⟨ax, cx, rfl, hx⟩ := hx
    obtain ⟨ay, cy, rfl, hy⟩ := hy
    replace f0 := hC5.frozen z0 f0 id
    replace f1 := hC5.frozen z1 f1 id
    replace z0 := hC5.cell z0 id
    replace z1 := hC5.cell z1 id
    have HXL := Lib.hid (hx.fr hC5)
    have HYL := Lib.hid (hy.fr hC5)
    replace HC0 := Lib.hid (HC0.out.tr hC5)
    clear hC5 hx hy
    have hC6 := ((Chg.refl (fun _ => False) w5).alloc (.cells #[.slice ax F.length cx, .int .i64 lx] 90)).alloc (.cells #[.slice ay G.length cy, .int .i64 ly] 90)
    replace f0 := hC6.frozen z0 f0 id
    replace f1 := hC6.frozen z1 f1 id
    replace z0 := hC6.cell z0 id
    replace z1 := hC6.cell z1 id
    have HC := Lib.hid (HC0.out.tr hC6)
    clear hC6
    obtain ⟨g0, g1⟩ := mset2 (.slice none 0 0) .nilFunc z0 z1
    go_wp2
    simp [bodyPost, results, Try.results17, go_sem, g0, g1]
    rw [HR.out]
    exact mway_no (by decide) (Nat.le_refl _) HC.out
  | true =>
    go_enter Try.func17, Try.ntmps17
    go_wp2_with fail
    refine hc1.mono ?_
    clear hc1
    rintro e9 w1 ⟨rfl, rfl⟩
    go_wp2_with fail
    refine hc2.mono ?_
    clear hc2
    rintro e9 w2 ⟨rfl, hw2⟩
    have hC2 : Chg (fun _ => False) (w.alloc (.cells #[.slice none 0 0, .nilFunc] 31)) w2 := hw2 ▸ Chg.refl _ _
    clear hw2
    replace f0 := hC2.frozen z0 f0 id
    replace f1 := hC2.frozen z1 f1 id
    replace z0 := hC2.cell z0 id
    replace z1 := hC2.cell z1 id
    have h1 := cloneI_any _ a w2 (HU.out.fr (HC0.out.tr hC2)) HL.out.1
    replace HC0 := Lib.hid (HC0.out.tr hC2)
    clear hC2
    go_wp2_with fail
    refine h1.mono ?_
    clear h1
    rintro e9 w3 ⟨v3, rfl, ho3, hC3⟩
    obtain ⟨a3, c3, rfl⟩ := own_name ho3
    have h2 := cloneI_any _ b w3 (HV.out.fr (HC0.out.tr hC3)) HL.out.2
    replace f0 := hC3.frozen z0 f0 id
    replace f1 := hC3.frozen z1 f1 id
    replace z0 := hC3.cell z0 id
    replace z1 := hC3.cell z1 id
    have HO3 := Lib.hid ho3
    replace HC0 := Lib.hid (HC0.out.tr hC3)
    clear hC3 ho3
    go_wp2_with fail
    refine h2.mono ?_
    clear h2
    rintro e9 w4 ⟨v4, rfl, ho4, hC4⟩
    obtain ⟨a4, c4, rfl⟩ := own_name ho4
    have h3 := sides_any _ _ a b w4 (HO3.out.fr hC4).ls ho4.ls HL.out.2
    replace f0 := hC4.frozen z0 f0 id
    replace f1 := hC4.frozen z1 f1 id
    replace z0 := hC4.cell z0 id
    replace z1 := hC4.cell z1 id
    have HO4 := Lib.hid ho4
    replace HC0 := Lib.hid (HC0.out.tr hC4)
    clear hC4 ho4
    rw [HF.out, HG.out, HX.out, HY.out, HB.out] at h3
    unfold SidesP at h3
    go_wp2_with fail
    refine h3.mono ?_
    clear h3
    rintro e9 w5 ⟨vx, vy, rfl, hx, hy, hC5⟩
    obtain ⟨ax, cx, rfl, hx⟩ := hx
    obtain ⟨ay, cy, rfl, hy⟩ := hy
    replace f0 := hC5.frozen z0 f0 id
    replace f1 := hC5.frozen z1 f1 id
    replace z0 := hC5.cell z0 id
    replace z1 := hC5.cell z1 id
    have HXL := Lib.hid (hx.fr hC5)
    have HYL := Lib.hid (hy.fr hC5)
    replace HC0 := Lib.hid (HC0.out.tr hC5)
    clear hC5 hx hy
    have HSZ := Lib.hid (show w.heap.size < w5.heap.size from cell_lt z0)
    have hC6 := ((Chg.refl (fun _ => False) w5).alloc (.cells #[.slice ax F.length cx, .int .i64 lx] 90)).alloc (.cells #[.slice ay G.length cy, .int .i64 ly] 90)
    replace f0 := hC6.frozen z0 f0 id
    replace f1 := hC6.frozen z1 f1 id
    replace z0 := hC6.cell z0 id
    replace z1 := hC6.cell z1 id
    have hC7 : Chg (fun _ => False) (w5.alloc (.cells #[.slice ax F.length cx, .int .i64 lx] 90)) ((w5.alloc (.cells #[.slice ax F.length cx, .int .i64 lx] 90)).alloc (.cells #[.slice ay G.length cy, .int .i64 ly] 90)) := (Chg.refl _ _).alloc _
    have HC := Lib.hid (HC0.out.tr hC6)
    have y0 := hC7.cell (new_cell w5 #[.slice ax F.length cx, .int .i64 lx] 90 (i := 0) rfl) id
    have y1 := hC7.cell (new_cell w5 #[.slice ax F.length cx, .int .i64 lx] 90 (i := 1) rfl) id
    have x0 := new_cell (w5.alloc (.cells #[.slice ax F.length cx, .int .i64 lx] 90)) #[.slice ay G.length cy, .int .i64 ly] 90 (i := 0) rfl
    have x1 := new_cell (w5.alloc (.cells #[.slice ax F.length cx, .int .i64 lx] 90)) #[.slice ay G.length cy, .int .i64 ly] 90 (i := 1) rfl
    rw [World.size_alloc] at x0 x1
    have heq := equalI_any _ _ F G _ (HXL.out.fr hC6) (HYL.out.fr hC6) (by have := HFX.out.2.2.1; omega)
    clear hC6 hC7
    by_cases hFG : F = G
    · have HR := Lib.hid (show catW a b = limW (catS a b) (catG a b) by rw [HW.out, if_pos trivial, if_pos hFG])
      rw [decide_eq_true hFG] at heq
      clear hFG
      go_wp2_with fail
      refine heq.mono ?_
      clear heq
      rintro e9 w6 ⟨rfl, hC6⟩
      replace f0 := hC6.frozen z0 f0 id
      replace f1 := hC6.frozen z1 f1 id
      replace z0 := hC6.cell z0 id
      replace z1 := hC6.cell z1 id
      replace y0 := hC6.cell y0 id
      replace y1 := hC6.cell y1 id
      replace x0 := hC6.cell x0 id
      replace x1 := hC6.cell x1 id
      have HXL6 := Lib.hid (HXL.out.fr ((((Chg.refl (fun _ => False) w5).alloc (.cells #[.slice ax F.length cx, .int .i64 lx] 90)).alloc (.cells #[.slice ay G.length cy, .int .i64 ly] 90)).tr hC6))
      replace HC := Lib.hid (HC.out.tr hC6)
      have hsz5 : w.heap.size < w5.heap.size := HSZ.out
      have hsz6 : w5.heap.size + 1 < w6.heap.size := cell_lt x0
      obtain ⟨p, hp⟩ : ∃ p, w5.heap.size = p := ⟨_, rfl⟩
      rw [hp] at x0 x1 y0 y1 hsz5 hsz6 ⊢
      have HS := Lib.hid (And.intro hsz5 hsz6)
      clear hC6 HXL HYL HSZ hp hsz5 hsz6
      obtain ⟨L, hL⟩ : ∃ L, lx + ly = L := ⟨_, rfl⟩
      have hwL : IntKind.i64.wrap L = L := IntWalk.i64_in _ (by have := HFX.out; omega)
      have HLL := Lib.hid hL
      by_cases hae : a = []
      · have t1 : ((a.length : Int) == 0) = true := by rw [hae]; rfl
        have t2 : (cntN a == 1) = true := by rw [HA.out.1 hae]; rfl
        have HSA := Lib.hid (decide_eq_true hae)
        clear hae
        by_cases hbe : b = []
        · have t3 : ((b.length : Int) == 0) = true := by rw [hbe]; rfl
          have t4 : (cntN b == 1) = true := by rw [HA.out.2 hbe]; rfl
          have HSB := Lib.hid (decide_eq_true hbe)
          clear hbe
          go_wp2
          obtain ⟨m, hm⟩ : ∃ m, w6.heap.size = m := ⟨_, rfl⟩
          obtain ⟨q0, q1, q2, q3, q4, hC7⟩ := cat_al w6 m hm L true true (.func (.func 71) #[] #[.pointer (some ⟨m + 1, 0, none⟩)]) 3 94 95
          rw [hm] at HS ⊢
          replace f0 := hC7.frozen z0 f0 id
          replace f1 := hC7.frozen z1 f1 id
          replace z0 := hC7.cell z0 id
          replace z1 := hC7.cell z1 id
          replace y0 := hC7.cell y0 id
          replace y1 := hC7.cell y1 id
          replace x1 := hC7.cell x1 id
          have HXL7 := Lib.hid (HXL6.out.fr hC7)
          replace HC := Lib.hid (HC.out.tr hC7)
          clear hC7 x0 hm t1 t2 t3 t4 hL
          generalize ((w6.alloc (.cells #[.int .i64 L] 3)).alloc (.cells #[.bool true, .bool true] 94)).alloc (.cells #[.func (.func 71) #[] #[.pointer (some ⟨m + 1, 0, none⟩)]] 95) = w7 at *
          obtain ⟨n, hn⟩ : ∃ n, F.length = n := ⟨_, rfl⟩
          rw [hn] at HXL7 y0 HFX ⊢
          have hnone := fun h => HXL7.out.nn h
          have hs3 := HXL7.out.hm
          obtain ⟨i0, hi, hz0, hz1, hz2⟩ := info_parts info_int
          have KP := Lib.hid (show ∀ w', Chg (fun q => q = w.heap.size) w7 w' → (Chg (fun q => q = w.heap.size) w7 w' ∧ w'.cell? ⟨p, 0, none⟩ = some (.slice ax n cx) ∧ w'.cell? ⟨m, 0, none⟩ = some (.int .i64 L)) from fun w' h => ⟨h, h.cell y0 (fun e => by have := HS.out; simp at e; omega), h.cell q0 (fun e => by have := HS.out; simp at e; omega)⟩)
          have HN := Lib.hid hn
          have HH := Lib.hid (show n ≤ 4 from HFX.out.2.2.1)
          clear hn
          have HNEW := Lib.hid (show ∀ j u, [(.int .i64 L : Value)][j]? = some u → ((w7.alloc (.cells #[.int .i64 L] 3)).drew).cell? ((⟨m + 3, 0, none⟩ : Addr).add j) = some u from fun j u hj => by
            have hk := new_cell w7 #[.int .i64 L] 3 (i := 0) rfl
            rw [q4] at hk
            cases j with
            | zero => cases hj; exact hk
            | succ j => simp at hj)
          have HCW := Lib.hid (show catS a b = F ++ [L] by unfold catS; rw [HF.out, HX.out, HY.out, HLL.out])
          have HCA := Lib.hid (And.intro (And.intro y1 x1) (And.intro q0 (And.intro q1 (And.intro q2 q3))))
          have hp7 : p + 1 < m := HS.out.2
          have HM7 := Lib.hid (show w.heap.size < p ∧ p + 1 < m ∧ w7.heap.size = m + 3 from ⟨HS.out.1, hp7, q4⟩)
          clear hp7
          go_region_held3 (fun w' => Chg (fun q => q = w.heap.size) w7 w' ∧ w'.cell? ⟨p, 0, none⟩ = some (.slice ax n cx) ∧ w'.cell? ⟨m, 0, none⟩ = some (.int .i64 L)) ((with_reducible refine KP.out _ ?_; (repeat (with_reducible refine mchg_at _ _ _ ?_ rfl)); (with_reducible refine mchg_of ?_); repeat (first | (with_reducible exact Chg.refl _ _) | (with_reducible assumption) | (with_reducible refine mchg_drew ?_) | (with_reducible refine mchg_alloc ?_)))) (first
            | (refine step_append_grows rfl (.tmp 83) (.tmp 85) 22 rfl 3 i0 (.int .i64 0) 1 8 Try.underlying22 hi hz0 hz1 hz2 rfl (by decide) ax n n (F.map I) (by simp [Act.eval]) hnone ?_ ?_ ⟨m + 3, 0, none⟩ 1 1 [.int .i64 L] (by simp [Act.eval]) rfl HNEW.out ?_ (Nat.lt_succ_self _) ?_ ?_ ?_
               · rw [List.length_map, HN.out, Nat.mul_one]
               · intro ad had j u hj
                 obtain ⟨ad2, h2, h3⟩ := (HXL7.out.fr (((Chg.refl (fun _ => False) w7).alloc (.cells #[.int .i64 L] 3)).drew)).src j u hj
                 rw [had] at h2
                 cases h2
                 exact h3
               · intro u hu
                 rw [List.mem_singleton] at hu
                 subst hu
                 rfl
               · have := HH.out; unfold maxLen; omega
               · have := HH.out; omega
               intro v8 w8 hown hgrow
               obtain ⟨a8, c8, rfl, _⟩ := owns_form hown
               have hC8 : Chg (fun _ => False) w7 w8 := (((Chg.refl (fun _ => False) w7).alloc (.cells #[.int .i64 L] 3)).drew).grown hgrow (by simp)
               have hsz8 : m + 3 ≤ w8.heap.size := by rw [← HM7.out.2.2]; exact hC8.size
               have hls : Ls w8 (.slice a8 (n + 1) c8) (F ++ [L]) := by
                 unfold Ls
                 rw [List.map_append]
                 exact Sl.of_owns hown
               have hbl : ∀ q, (Value.slice a8 (n + 1) c8).ownBlock = some q → w.heap.size < q ∧ q < w8.heap.size := fun q hq => by
                 have h1 := World.ownsRow.lt hown q hq
                 have h2 := HM7.out
                 simp at h1
                 omega
               have hfn : shB (F ++ [L]) = true → FnAt w8 (fun k => w.heap.size < k ∧ k < w8.heap.size) 72 #[.pointer (some ⟨m, 0, none⟩), .pointer (some ⟨p, 0, none⟩), .pointer (some ⟨m + 1 + 1, 0, none⟩), .pointer (some ⟨p + 1, 0, none⟩)] (catG a b) := fun hsh => by
                 have h2 := HM7.out
                 obtain ⟨⟨k1, k2⟩, k3, k4, k5, k6⟩ := HCA.out
                 exact cat_fnAt a b F lx ly L true true w8 (fun k => w.heap.size < k ∧ k < w8.heap.size) m p HF.out HX.out HY.out HLL.out HSA.out HSB.out HFX.out.1 HFX.out.2.1 (by omega) (by omega) (by omega) (by omega) (by omega) (hC8.cell k3 id) (hC8.cell k1 id) (hC8.cell k2 id) (hC8.cell k6 id) (hC8.cell k4 id) (hC8.cell k5 id) hsh
               have hlim := limited_any (fun k => w.heap.size < k ∧ k < w8.heap.size) 72 #[.pointer (some ⟨m, 0, none⟩), .pointer (some ⟨p, 0, none⟩), .pointer (some ⟨m + 1 + 1, 0, none⟩), .pointer (some ⟨p + 1, 0, none⟩)] (catG a b) _ (F ++ [L]) w8 hls hbl (fun k hk => hk.2) hfn
               have HC8 := Lib.hid hC8
               clear hls hbl hfn hsz8 hgrow hown)
            | (go_at_call 60
               refine hlim.mono ?_
               rintro e9 w9 ⟨v9, D9, rfl, hW9, hD9, hC9⟩
               obtain ⟨V0, V1, rfl, hv0, hv1⟩ := mway_agg hW9
               have st0 := fun (a : Addr) (m : Mode) (w : World) => run_store Try.prog w a V0 m hv0
               have st1 := fun (a : Addr) (m : Mode) (w : World) => run_store Try.prog w a V1 m hv1
               have hC79 : Chg (fun _ => False) w7 w9 := hC8.tr hC9
               replace f0 := hC79.frozen z0 f0 id
               replace f1 := hC79.frozen z1 f1 id
               replace z0 := hC79.cell z0 id
               replace z1 := hC79.cell z1 id))
          all_goals
            obtain ⟨g0, g1⟩ := mset2 V0 V1 z0 z1
            have HW9 := Lib.hid hW9
            have HD9 := Lib.hid hD9
            have HC9 := Lib.hid (HC.out.tr hC79)
            clear hW9 hD9 hC9 hC8 hC79
            go_wp2
            simp [bodyPost, results, Try.results17, go_sem, g0, g1]
            rw [HR.out, HCW.out]
            have hdd : ∀ k, D9 k → w.heap.size < k := fun k hk => by
              rcases HD9.out k hk with h | h
              · exact h.1
              · have h1 := HM7.out
                have h2 := HC8.out.size
                omega
            exact mway_store (x := w.heap.size) HW9.out (fun k hk => .inr (Nat.le_of_lt (hdd k hk))) (Nat.le_refl _) (Nat.le_refl _) (fun hk => absurd (hdd _ hk) (Nat.lt_irrefl _)) HC9.out rfl
        · have t3 : ((b.length : Int) == 0) = false := beq_eq_false_iff_ne.2 (by have := List.length_pos_iff.2 hbe; omega)
          have HSB := Lib.hid (decide_eq_false hbe)
          clear hbe
          go_wp2
          obtain ⟨m, hm⟩ : ∃ m, w6.heap.size = m := ⟨_, rfl⟩
          obtain ⟨q0, q1, q2, q3, q4, hC7⟩ := cat_al w6 m hm L true false (.func (.func 71) #[] #[.pointer (some ⟨m + 1, 0, none⟩)]) 3 94 95
          rw [hm] at HS ⊢
          replace f0 := hC7.frozen z0 f0 id
          replace f1 := hC7.frozen z1 f1 id
          replace z0 := hC7.cell z0 id
          replace z1 := hC7.cell z1 id
          replace y0 := hC7.cell y0 id
          replace y1 := hC7.cell y1 id
          replace x1 := hC7.cell x1 id
          have HXL7 := Lib.hid (HXL6.out.fr hC7)
          replace HC := Lib.hid (HC.out.tr hC7)
          clear hC7 x0 hm t1 t2 t3 hL
          generalize ((w6.alloc (.cells #[.int .i64 L] 3)).alloc (.cells #[.bool true, .bool false] 94)).alloc (.cells #[.func (.func 71) #[] #[.pointer (some ⟨m + 1, 0, none⟩)]] 95) = w7 at *
          obtain ⟨n, hn⟩ : ∃ n, F.length = n := ⟨_, rfl⟩
          rw [hn] at HXL7 y0 HFX ⊢
          have hnone := fun h => HXL7.out.nn h
          have hs3 := HXL7.out.hm
          obtain ⟨i0, hi, hz0, hz1, hz2⟩ := info_parts info_int
          have KP := Lib.hid (show ∀ w', Chg (fun q => q = w.heap.size) w7 w' → (Chg (fun q => q = w.heap.size) w7 w' ∧ w'.cell? ⟨p, 0, none⟩ = some (.slice ax n cx) ∧ w'.cell? ⟨m, 0, none⟩ = some (.int .i64 L)) from fun w' h => ⟨h, h.cell y0 (fun e => by have := HS.out; simp at e; omega), h.cell q0 (fun e => by have := HS.out; simp at e; omega)⟩)
          have HN := Lib.hid hn
          have HH := Lib.hid (show n ≤ 4 from HFX.out.2.2.1)
          clear hn
          have HNEW := Lib.hid (show ∀ j u, [(.int .i64 L : Value)][j]? = some u → ((w7.alloc (.cells #[.int .i64 L] 3)).drew).cell? ((⟨m + 3, 0, none⟩ : Addr).add j) = some u from fun j u hj => by
            have hk := new_cell w7 #[.int .i64 L] 3 (i := 0) rfl
            rw [q4] at hk
            cases j with
            | zero => cases hj; exact hk
            | succ j => simp at hj)
          have HCW := Lib.hid (show catS a b = F ++ [L] by unfold catS; rw [HF.out, HX.out, HY.out, HLL.out])
          have HCA := Lib.hid (And.intro (And.intro y1 x1) (And.intro q0 (And.intro q1 (And.intro q2 q3))))
          have hp7 : p + 1 < m := HS.out.2
          have HM7 := Lib.hid (show w.heap.size < p ∧ p + 1 < m ∧ w7.heap.size = m + 3 from ⟨HS.out.1, hp7, q4⟩)
          clear hp7
          go_region_held3 (fun w' => Chg (fun q => q = w.heap.size) w7 w' ∧ w'.cell? ⟨p, 0, none⟩ = some (.slice ax n cx) ∧ w'.cell? ⟨m, 0, none⟩ = some (.int .i64 L)) ((with_reducible refine KP.out _ ?_; (repeat (with_reducible refine mchg_at _ _ _ ?_ rfl)); (with_reducible refine mchg_of ?_); repeat (first | (with_reducible exact Chg.refl _ _) | (with_reducible assumption) | (with_reducible refine mchg_drew ?_) | (with_reducible refine mchg_alloc ?_)))) (first
            | (refine step_append_grows rfl (.tmp 83) (.tmp 85) 22 rfl 3 i0 (.int .i64 0) 1 8 Try.underlying22 hi hz0 hz1 hz2 rfl (by decide) ax n n (F.map I) (by simp [Act.eval]) hnone ?_ ?_ ⟨m + 3, 0, none⟩ 1 1 [.int .i64 L] (by simp [Act.eval]) rfl HNEW.out ?_ (Nat.lt_succ_self _) ?_ ?_ ?_
               · rw [List.length_map, HN.out, Nat.mul_one]
               · intro ad had j u hj
                 obtain ⟨ad2, h2, h3⟩ := (HXL7.out.fr (((Chg.refl (fun _ => False) w7).alloc (.cells #[.int .i64 L] 3)).drew)).src j u hj
                 rw [had] at h2
                 cases h2
                 exact h3
               · intro u hu
                 rw [List.mem_singleton] at hu
                 subst hu
                 rfl
               · have := HH.out; unfold maxLen; omega
               · have := HH.out; omega
               intro v8 w8 hown hgrow
               obtain ⟨a8, c8, rfl, _⟩ := owns_form hown
               have hC8 : Chg (fun _ => False) w7 w8 := (((Chg.refl (fun _ => False) w7).alloc (.cells #[.int .i64 L] 3)).drew).grown hgrow (by simp)
               have hsz8 : m + 3 ≤ w8.heap.size := by rw [← HM7.out.2.2]; exact hC8.size
               have hls : Ls w8 (.slice a8 (n + 1) c8) (F ++ [L]) := by
                 unfold Ls
                 rw [List.map_append]
                 exact Sl.of_owns hown
               have hbl : ∀ q, (Value.slice a8 (n + 1) c8).ownBlock = some q → w.heap.size < q ∧ q < w8.heap.size := fun q hq => by
                 have h1 := World.ownsRow.lt hown q hq
                 have h2 := HM7.out
                 simp at h1
                 omega
               have hfn : shB (F ++ [L]) = true → FnAt w8 (fun k => w.heap.size < k ∧ k < w8.heap.size) 72 #[.pointer (some ⟨m, 0, none⟩), .pointer (some ⟨p, 0, none⟩), .pointer (some ⟨m + 1 + 1, 0, none⟩), .pointer (some ⟨p + 1, 0, none⟩)] (catG a b) := fun hsh => by
                 have h2 := HM7.out
                 obtain ⟨⟨k1, k2⟩, k3, k4, k5, k6⟩ := HCA.out
                 exact cat_fnAt a b F lx ly L true false w8 (fun k => w.heap.size < k ∧ k < w8.heap.size) m p HF.out HX.out HY.out HLL.out HSA.out HSB.out HFX.out.1 HFX.out.2.1 (by omega) (by omega) (by omega) (by omega) (by omega) (hC8.cell k3 id) (hC8.cell k1 id) (hC8.cell k2 id) (hC8.cell k6 id) (hC8.cell k4 id) (hC8.cell k5 id) hsh
               have hlim := limited_any (fun k => w.heap.size < k ∧ k < w8.heap.size) 72 #[.pointer (some ⟨m, 0, none⟩), .pointer (some ⟨p, 0, none⟩), .pointer (some ⟨m + 1 + 1, 0, none⟩), .pointer (some ⟨p + 1, 0, none⟩)] (catG a b) _ (F ++ [L]) w8 hls hbl (fun k hk => hk.2) hfn
               have HC8 := Lib.hid hC8
               clear hls hbl hfn hsz8 hgrow hown)
            | (go_at_call 60
               refine hlim.mono ?_
               rintro e9 w9 ⟨v9, D9, rfl, hW9, hD9, hC9⟩
               obtain ⟨V0, V1, rfl, hv0, hv1⟩ := mway_agg hW9
               have st0 := fun (a : Addr) (m : Mode) (w : World) => run_store Try.prog w a V0 m hv0
               have st1 := fun (a : Addr) (m : Mode) (w : World) => run_store Try.prog w a V1 m hv1
               have hC79 : Chg (fun _ => False) w7 w9 := hC8.tr hC9
               replace f0 := hC79.frozen z0 f0 id
               replace f1 := hC79.frozen z1 f1 id
               replace z0 := hC79.cell z0 id
               replace z1 := hC79.cell z1 id))
          all_goals
            obtain ⟨g0, g1⟩ := mset2 V0 V1 z0 z1
            have HW9 := Lib.hid hW9
            have HD9 := Lib.hid hD9
            have HC9 := Lib.hid (HC.out.tr hC79)
            clear hW9 hD9 hC9 hC8 hC79
            go_wp2
            simp [bodyPost, results, Try.results17, go_sem, g0, g1]
            rw [HR.out, HCW.out]
            have hdd : ∀ k, D9 k → w.heap.size < k := fun k hk => by
              rcases HD9.out k hk with h | h
              · exact h.1
              · have h1 := HM7.out
                have h2 := HC8.out.size
                omega
            exact mway_store (x := w.heap.size) HW9.out (fun k hk => .inr (Nat.le_of_lt (hdd k hk))) (Nat.le_refl _) (Nat.le_refl _) (fun hk => absurd (hdd _ hk) (Nat.lt_irrefl _)) HC9.out rfl
      · have t1 : ((a.length : Int) == 0) = false := beq_eq_false_iff_ne.2 (by have := List.length_pos_iff.2 hae; omega)
        have HSA := Lib.hid (decide_eq_false hae)
        clear hae
        by_cases hbe : b = []
        · have t3 : ((b.length : Int) == 0) = true := by rw [hbe]; rfl
          have t4 : (cntN b == 1) = true := by rw [HA.out.2 hbe]; rfl
          have HSB := Lib.hid (decide_eq_true hbe)
          clear hbe
          go_wp2
          obtain ⟨m, hm⟩ : ∃ m, w6.heap.size = m := ⟨_, rfl⟩
          obtain ⟨q0, q1, q2, q3, q4, hC7⟩ := cat_al w6 m hm L false true (.func (.func 71) #[] #[.pointer (some ⟨m + 1, 0, none⟩)]) 3 94 95
          rw [hm] at HS ⊢
          replace f0 := hC7.frozen z0 f0 id
          replace f1 := hC7.frozen z1 f1 id
          replace z0 := hC7.cell z0 id
          replace z1 := hC7.cell z1 id
          replace y0 := hC7.cell y0 id
          replace y1 := hC7.cell y1 id
          replace x1 := hC7.cell x1 id
          have HXL7 := Lib.hid (HXL6.out.fr hC7)
          replace HC := Lib.hid (HC.out.tr hC7)
          clear hC7 x0 hm t1 t3 t4 hL
          generalize ((w6.alloc (.cells #[.int .i64 L] 3)).alloc (.cells #[.bool false, .bool true] 94)).alloc (.cells #[.func (.func 71) #[] #[.pointer (some ⟨m + 1, 0, none⟩)]] 95) = w7 at *
          obtain ⟨n, hn⟩ : ∃ n, F.length = n := ⟨_, rfl⟩
          rw [hn] at HXL7 y0 HFX ⊢
          have hnone := fun h => HXL7.out.nn h
          have hs3 := HXL7.out.hm
          obtain ⟨i0, hi, hz0, hz1, hz2⟩ := info_parts info_int
          have KP := Lib.hid (show ∀ w', Chg (fun q => q = w.heap.size) w7 w' → (Chg (fun q => q = w.heap.size) w7 w' ∧ w'.cell? ⟨p, 0, none⟩ = some (.slice ax n cx) ∧ w'.cell? ⟨m, 0, none⟩ = some (.int .i64 L)) from fun w' h => ⟨h, h.cell y0 (fun e => by have := HS.out; simp at e; omega), h.cell q0 (fun e => by have := HS.out; simp at e; omega)⟩)
          have HN := Lib.hid hn
          have HH := Lib.hid (show n ≤ 4 from HFX.out.2.2.1)
          clear hn
          have HNEW := Lib.hid (show ∀ j u, [(.int .i64 L : Value)][j]? = some u → ((w7.alloc (.cells #[.int .i64 L] 3)).drew).cell? ((⟨m + 3, 0, none⟩ : Addr).add j) = some u from fun j u hj => by
            have hk := new_cell w7 #[.int .i64 L] 3 (i := 0) rfl
            rw [q4] at hk
            cases j with
            | zero => cases hj; exact hk
            | succ j => simp at hj)
          have HCW := Lib.hid (show catS a b = F ++ [L] by unfold catS; rw [HF.out, HX.out, HY.out, HLL.out])
          have HCA := Lib.hid (And.intro (And.intro y1 x1) (And.intro q0 (And.intro q1 (And.intro q2 q3))))
          have hp7 : p + 1 < m := HS.out.2
          have HM7 := Lib.hid (show w.heap.size < p ∧ p + 1 < m ∧ w7.heap.size = m + 3 from ⟨HS.out.1, hp7, q4⟩)
          clear hp7
          go_region_held3 (fun w' => Chg (fun q => q = w.heap.size) w7 w' ∧ w'.cell? ⟨p, 0, none⟩ = some (.slice ax n cx) ∧ w'.cell? ⟨m, 0, none⟩ = some (.int .i64 L)) ((with_reducible refine KP.out _ ?_; (repeat (with_reducible refine mchg_at _ _ _ ?_ rfl)); (with_reducible refine mchg_of ?_); repeat (first | (with_reducible exact Chg.refl _ _) | (with_reducible assumption) | (with_reducible refine mchg_drew ?_) | (with_reducible refine mchg_alloc ?_)))) (first
            | (refine step_append_grows rfl (.tmp 83) (.tmp 85) 22 rfl 3 i0 (.int .i64 0) 1 8 Try.underlying22 hi hz0 hz1 hz2 rfl (by decide) ax n n (F.map I) (by simp [Act.eval]) hnone ?_ ?_ ⟨m + 3, 0, none⟩ 1 1 [.int .i64 L] (by simp [Act.eval]) rfl HNEW.out ?_ (Nat.lt_succ_self _) ?_ ?_ ?_
               · rw [List.length_map, HN.out, Nat.mul_one]
               · intro ad had j u hj
                 obtain ⟨ad2, h2, h3⟩ := (HXL7.out.fr (((Chg.refl (fun _ => False) w7).alloc (.cells #[.int .i64 L] 3)).drew)).src j u hj
                 rw [had] at h2
                 cases h2
                 exact h3
               · intro u hu
                 rw [List.mem_singleton] at hu
                 subst hu
                 rfl
               · have := HH.out; unfold maxLen; omega
               · have := HH.out; omega
               intro v8 w8 hown hgrow
               obtain ⟨a8, c8, rfl, _⟩ := owns_form hown
               have hC8 : Chg (fun _ => False) w7 w8 := (((Chg.refl (fun _ => False) w7).alloc (.cells #[.int .i64 L] 3)).drew).grown hgrow (by simp)
               have hsz8 : m + 3 ≤ w8.heap.size := by rw [← HM7.out.2.2]; exact hC8.size
               have hls : Ls w8 (.slice a8 (n + 1) c8) (F ++ [L]) := by
                 unfold Ls
                 rw [List.map_append]
                 exact Sl.of_owns hown
               have hbl : ∀ q, (Value.slice a8 (n + 1) c8).ownBlock = some q → w.heap.size < q ∧ q < w8.heap.size := fun q hq => by
                 have h1 := World.ownsRow.lt hown q hq
                 have h2 := HM7.out
                 simp at h1
                 omega
               have hfn : shB (F ++ [L]) = true → FnAt w8 (fun k => w.heap.size < k ∧ k < w8.heap.size) 72 #[.pointer (some ⟨m, 0, none⟩), .pointer (some ⟨p, 0, none⟩), .pointer (some ⟨m + 1 + 1, 0, none⟩), .pointer (some ⟨p + 1, 0, none⟩)] (catG a b) := fun hsh => by
                 have h2 := HM7.out
                 obtain ⟨⟨k1, k2⟩, k3, k4, k5, k6⟩ := HCA.out
                 exact cat_fnAt a b F lx ly L false true w8 (fun k => w.heap.size < k ∧ k < w8.heap.size) m p HF.out HX.out HY.out HLL.out HSA.out HSB.out HFX.out.1 HFX.out.2.1 (by omega) (by omega) (by omega) (by omega) (by omega) (hC8.cell k3 id) (hC8.cell k1 id) (hC8.cell k2 id) (hC8.cell k6 id) (hC8.cell k4 id) (hC8.cell k5 id) hsh
               have hlim := limited_any (fun k => w.heap.size < k ∧ k < w8.heap.size) 72 #[.pointer (some ⟨m, 0, none⟩), .pointer (some ⟨p, 0, none⟩), .pointer (some ⟨m + 1 + 1, 0, none⟩), .pointer (some ⟨p + 1, 0, none⟩)] (catG a b) _ (F ++ [L]) w8 hls hbl (fun k hk => hk.2) hfn
               have HC8 := Lib.hid hC8
               clear hls hbl hfn hsz8 hgrow hown)
            | (go_at_call 60
               refine hlim.mono ?_
               rintro e9 w9 ⟨v9, D9, rfl, hW9, hD9, hC9⟩
               obtain ⟨V0, V1, rfl, hv0, hv1⟩ := mway_agg hW9
               have st0 := fun (a : Addr) (m : Mode) (w : World) => run_store Try.prog w a V0 m hv0
               have st1 := fun (a : Addr) (m : Mode) (w : World) => run_store Try.prog w a V1 m hv1
               have hC79 : Chg (fun _ => False) w7 w9 := hC8.tr hC9
               replace f0 := hC79.frozen z0 f0 id
               replace f1 := hC79.frozen z1 f1 id
               replace z0 := hC79.cell z0 id
               replace z1 := hC79.cell z1 id))
          all_goals
            obtain ⟨g0, g1⟩ := mset2 V0 V1 z0 z1
            have HW9 := Lib.hid hW9
            have HD9 := Lib.hid hD9
            have HC9 := Lib.hid (HC.out.tr hC79)
            clear hW9 hD9 hC9 hC8 hC79
            go_wp2
            simp [bodyPost, results, Try.results17, go_sem, g0, g1]
            rw [HR.out, HCW.out]
            have hdd : ∀ k, D9 k → w.heap.size < k := fun k hk => by
              rcases HD9.out k hk with h | h
              · exact h.1
              · have h1 := HM7.out
                have h2 := HC8.out.size
                omega
            exact mway_store (x := w.heap.size) HW9.out (fun k hk => .inr (Nat.le_of_lt (hdd k hk))) (Nat.le_refl _) (Nat.le_refl _) (fun hk => absurd (hdd _ hk) (Nat.lt_irrefl _)) HC9.out rfl
        · have t3 : ((b.length : Int) == 0) = false := beq_eq_false_iff_ne.2 (by have := List.length_pos_iff.2 hbe; omega)
          have HSB := Lib.hid (decide_eq_false hbe)
          clear hbe
          go_wp2
          obtain ⟨m, hm⟩ : ∃ m, w6.heap.size = m := ⟨_, rfl⟩
          obtain ⟨q0, q1, q2, q3, q4, hC7⟩ := cat_al w6 m hm L false false (.func (.func 71) #[] #[.pointer (some ⟨m + 1, 0, none⟩)]) 3 94 95
          rw [hm] at HS ⊢
          replace f0 := hC7.frozen z0 f0 id
          replace f1 := hC7.frozen z1 f1 id
          replace z0 := hC7.cell z0 id
          replace z1 := hC7.cell z1 id
          replace y0 := hC7.cell y0 id
          replace y1 := hC7.cell y1 id
          replace x1 := hC7.cell x1 id
          have HXL7 := Lib.hid (HXL6.out.fr hC7)
          replace HC := Lib.hid (HC.out.tr hC7)
          clear hC7 x0 hm t1 t3 hL
          generalize ((w6.alloc (.cells #[.int .i64 L] 3)).alloc (.cells #[.bool false, .bool false] 94)).alloc (.cells #[.func (.func 71) #[] #[.pointer (some ⟨m + 1, 0, none⟩)]] 95) = w7 at *
          obtain ⟨n, hn⟩ : ∃ n, F.length = n := ⟨_, rfl⟩
          rw [hn] at HXL7 y0 HFX ⊢
          have hnone := fun h => HXL7.out.nn h
          have hs3 := HXL7.out.hm
          obtain ⟨i0, hi, hz0, hz1, hz2⟩ := info_parts info_int
          have KP := Lib.hid (show ∀ w', Chg (fun q => q = w.heap.size) w7 w' → (Chg (fun q => q = w.heap.size) w7 w' ∧ w'.cell? ⟨p, 0, none⟩ = some (.slice ax n cx) ∧ w'.cell? ⟨m, 0, none⟩ = some (.int .i64 L)) from fun w' h => ⟨h, h.cell y0 (fun e => by have := HS.out; simp at e; omega), h.cell q0 (fun e => by have := HS.out; simp at e; omega)⟩)
          have HN := Lib.hid hn
          have HH := Lib.hid (show n ≤ 4 from HFX.out.2.2.1)
          clear hn
          have HNEW := Lib.hid (show ∀ j u, [(.int .i64 L : Value)][j]? = some u → ((w7.alloc (.cells #[.int .i64 L] 3)).drew).cell? ((⟨m + 3, 0, none⟩ : Addr).add j) = some u from fun j u hj => by
            have hk := new_cell w7 #[.int .i64 L] 3 (i := 0) rfl
            rw [q4] at hk
            cases j with
            | zero => cases hj; exact hk
            | succ j => simp at hj)
          have HCW := Lib.hid (show catS a b = F ++ [L] by unfold catS; rw [HF.out, HX.out, HY.out, HLL.out])
          have HCA := Lib.hid (And.intro (And.intro y1 x1) (And.intro q0 (And.intro q1 (And.intro q2 q3))))
          have hp7 : p + 1 < m := HS.out.2
          have HM7 := Lib.hid (show w.heap.size < p ∧ p + 1 < m ∧ w7.heap.size = m + 3 from ⟨HS.out.1, hp7, q4⟩)
          clear hp7
          go_region_held3 (fun w' => Chg (fun q => q = w.heap.size) w7 w' ∧ w'.cell? ⟨p, 0, none⟩ = some (.slice ax n cx) ∧ w'.cell? ⟨m, 0, none⟩ = some (.int .i64 L)) ((with_reducible refine KP.out _ ?_; (repeat (with_reducible refine mchg_at _ _ _ ?_ rfl)); (with_reducible refine mchg_of ?_); repeat (first | (with_reducible exact Chg.refl _ _) | (with_reducible assumption) | (with_reducible refine mchg_drew ?_) | (with_reducible refine mchg_alloc ?_)))) (first
            | (refine step_append_grows rfl (.tmp 83) (.tmp 85) 22 rfl 3 i0 (.int .i64 0) 1 8 Try.underlying22 hi hz0 hz1 hz2 rfl (by decide) ax n n (F.map I) (by simp [Act.eval]) hnone ?_ ?_ ⟨m + 3, 0, none⟩ 1 1 [.int .i64 L] (by simp [Act.eval]) rfl HNEW.out ?_ (Nat.lt_succ_self _) ?_ ?_ ?_
               · rw [List.length_map, HN.out, Nat.mul_one]
               · intro ad had j u hj
                 obtain ⟨ad2, h2, h3⟩ := (HXL7.out.fr (((Chg.refl (fun _ => False) w7).alloc (.cells #[.int .i64 L] 3)).drew)).src j u hj
                 rw [had] at h2
                 cases h2
                 exact h3
               · intro u hu
                 rw [List.mem_singleton] at hu
                 subst hu
                 rfl
               · have := HH.out; unfold maxLen; omega
               · have := HH.out; omega
               intro v8 w8 hown hgrow
               obtain ⟨a8, c8, rfl, _⟩ := owns_form hown
               have hC8 : Chg (fun _ => False) w7 w8 := (((Chg.refl (fun _ => False) w7).alloc (.cells #[.int .i64 L] 3)).drew).grown hgrow (by simp)
               have hsz8 : m + 3 ≤ w8.heap.size := by rw [← HM7.out.2.2]; exact hC8.size
               have hls : Ls w8 (.slice a8 (n + 1) c8) (F ++ [L]) := by
                 unfold Ls
                 rw [List.map_append]
                 exact Sl.of_owns hown
               have hbl : ∀ q, (Value.slice a8 (n + 1) c8).ownBlock = some q → w.heap.size < q ∧ q < w8.heap.size := fun q hq => by
                 have h1 := World.ownsRow.lt hown q hq
                 have h2 := HM7.out
                 simp at h1
                 omega
               have hfn : shB (F ++ [L]) = true → FnAt w8 (fun k => w.heap.size < k ∧ k < w8.heap.size) 72 #[.pointer (some ⟨m, 0, none⟩), .pointer (some ⟨p, 0, none⟩), .pointer (some ⟨m + 1 + 1, 0, none⟩), .pointer (some ⟨p + 1, 0, none⟩)] (catG a b) := fun hsh => by
                 have h2 := HM7.out
                 obtain ⟨⟨k1, k2⟩, k3, k4, k5, k6⟩ := HCA.out
                 exact cat_fnAt a b F lx ly L false false w8 (fun k => w.heap.size < k ∧ k < w8.heap.size) m p HF.out HX.out HY.out HLL.out HSA.out HSB.out HFX.out.1 HFX.out.2.1 (by omega) (by omega) (by omega) (by omega) (by omega) (hC8.cell k3 id) (hC8.cell k1 id) (hC8.cell k2 id) (hC8.cell k6 id) (hC8.cell k4 id) (hC8.cell k5 id) hsh
               have hlim := limited_any (fun k => w.heap.size < k ∧ k < w8.heap.size) 72 #[.pointer (some ⟨m, 0, none⟩), .pointer (some ⟨p, 0, none⟩), .pointer (some ⟨m + 1 + 1, 0, none⟩), .pointer (some ⟨p + 1, 0, none⟩)] (catG a b) _ (F ++ [L]) w8 hls hbl (fun k hk => hk.2) hfn
               have HC8 := Lib.hid hC8
               clear hls hbl hfn hsz8 hgrow hown)
            | (go_at_call 60
               refine hlim.mono ?_
               rintro e9 w9 ⟨v9, D9, rfl, hW9, hD9, hC9⟩
               obtain ⟨V0, V1, rfl, hv0, hv1⟩ := mway_agg hW9
               have st0 := fun (a : Addr) (m : Mode) (w : World) => run_store Try.prog w a V0 m hv0
               have st1 := fun (a : Addr) (m : Mode) (w : World) => run_store Try.prog w a V1 m hv1
               have hC79 : Chg (fun _ => False) w7 w9 := hC8.tr hC9
               replace f0 := hC79.frozen z0 f0 id
               replace f1 := hC79.frozen z1 f1 id
               replace z0 := hC79.cell z0 id
               replace z1 := hC79.cell z1 id))
          all_goals
            obtain ⟨g0, g1⟩ := mset2 V0 V1 z0 z1
            have HW9 := Lib.hid hW9
            have HD9 := Lib.hid hD9
            have HC9 := Lib.hid (HC.out.tr hC79)
            clear hW9 hD9 hC9 hC8 hC79
            go_wp2
            simp [bodyPost, results, Try.results17, go_sem, g0, g1]
            rw [HR.out, HCW.out]
            have hdd : ∀ k, D9 k → w.heap.size < k := fun k hk => by
              rcases HD9.out k hk with h | h
              · exact h.1
              · have h1 := HM7.out
                have h2 := HC8.out.size
                omega
            exact mway_store (x := w.heap.size) HW9.out (fun k hk => .inr (Nat.le_of_lt (hdd k hk))) (Nat.le_refl _) (Nat.le_refl _) (fun hk => absurd (hdd _ hk) (Nat.lt_irrefl _)) HC9.out rfl
    · have HR := Lib.hid (show catW a b = noW 4 by rw [HW.out, if_pos trivial, if_neg hFG])
      rw [decide_eq_false hFG] at heq
      clear hFG x0 x1
      go_wp2_with fail
      refine heq.mono ?_
      clear heq
      rintro e9 w6 ⟨rfl, hC6⟩
      replace f0 := hC6.frozen z0 f0 id
      replace f1 := hC6.frozen z1 f1 id
      replace z0 := hC6.cell z0 id
      replace z1 := hC6.cell z1 id
      replace HC := Lib.hid (HC.out.tr hC6)
      clear hC6 y0 y1 HXL HYL
      obtain ⟨g0, g1⟩ := mset2 (.slice none 0 0) .nilFunc z0 z1
      go_wp2
      simp [bodyPost, results, Try.results17, go_sem, g0, g1]
      rw [HR.out]
      exact mway_no (by decide) (Nat.le_refl _) HC.out
end Go.Proofs.Ytceooipljhjpaaa
