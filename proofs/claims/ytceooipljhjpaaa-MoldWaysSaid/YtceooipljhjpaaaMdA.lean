/- mold: sides, and ways to a shape that may be. -/
import Derived.Test.YtceooipljhjpaaaArH
import Derived.Deep.RegionHeld3
import Derived.Laws.EntriesVeiled
namespace Go.Proofs.Ytceooipljhjpaaa
open Go.RowKit Go.Shelf

theorem msizeOf_int (w : World) : (sizeOf 3).run Try.prog w = .ok 1 w := by kernel_rfl
theorem Ls.mslice {w : World} {v : Value} {xs : List Int} (h : Ls w v xs) (hi : Nat) (h2 : hi ≤ xs.length) : ∃ ao c, Ls w (.slice ao hi c) (xs.take hi) ∧ (∀ W, (Instr.slice 22 v none (some (.int .i64 hi)) none).run Try.prog W = .ok (.slice ao hi c) W) := by
  obtain ⟨ao, c, hS, _, _, _, h5⟩ := Sl.slice (P := Try.prog) 22 3 Try.underlying22 msizeOf_int h 0 hi (Nat.zero_le _) (by rw [List.length_map]; exact h2)
  refine ⟨ao, c, ?_, h5 rfl⟩
  unfold Ls
  rw [List.map_take]
  exact hS
/-- One of two that are put together: the axes ahead of the last one, and its length. -/
def SideAt (w : World) (v : Value) (f : List Int) (m : Int) : Prop := ∃ ao c, v = .agg #[.slice ao f.length c, .int .i64 m] ∧ Ls w (.slice ao f.length c) f
theorem SideAt.fr {w w' : World} {v : Value} {f : List Int} {m : Int} (h : SideAt w v f m) (hC : Chg (fun _ => False) w w') : SideAt w' v f m := by
  obtain ⟨ao, c, e, h⟩ := h
  exact ⟨ao, c, e, h.fr hC⟩
theorem Ls.mpre {v : Value} {xs : List Int} {hi : Nat} {ao : Option Addr} {c : Nat} (hr : ∀ W, (Instr.slice 22 v none (some (.int .i64 hi)) none).run Try.prog W = .ok (.slice ao hi c) W) {W : World} (h : Ls W v xs) (h2 : hi ≤ xs.length) : Ls W (.slice ao hi c) (xs.take hi) := by
  obtain ⟨a2, c2, hx, hr2⟩ := h.mslice hi h2
  have e := (hr W).symm.trans (hr2 W)
  simp only [Result.ok.injEq, Value.slice.injEq, true_and, and_true] at e
  obtain ⟨rfl, rfl⟩ := e
  exact hx
set_option maxHeartbeats 1000000 in
theorem slast_any (v : Value) (f : List Int) (m : Int) (w : World) (hS : Ls w v (f ++ [m])) : Calls Try.prog 99 #[v] w (fun e w' => ∃ x, e = .returned x ∧ (∀ W, Ls W v (f ++ [m]) → SideAt W x f m) ∧ Chg (fun _ => False) w w') := by
  obtain ⟨ao, c, rfl, hc, hmx, hnil⟩ := hS.form
  obtain ⟨ax, cx, _, hxr⟩ := hS.mslice f.length (by simp)
  have HXL := Lib.hid (show ∀ W, Ls W (.slice ao (f ++ [m]).length c) (f ++ [m]) → Ls W (.slice ax f.length cx) f from fun W h => by
    have := Ls.mpre hxr h (by simp)
    rw [List.take_left] at this
    exact this)
  obtain ⟨b, o, c', e1, hcell⟩ := hS.at (j := f.length) (by simp)
  simp only [Value.slice.injEq] at e1
  obtain ⟨rfl, _, rfl⟩ := e1
  rw [List.getElem_append_right (Nat.le_refl _)] at hcell
  simp only [Nat.sub_self, List.getElem_cons_zero] at hcell
  obtain ⟨n, hn⟩ : ∃ n, (f ++ [m]).length = n := ⟨_, rfl⟩
  rw [hn] at hc hxr HXL ⊢
  have hsub : (n : Int) - 1 = (f.length : Int) := by rw [← hn]; simp
  have hw : IntKind.i64.wrap ((n : Int) - 1) = (f.length : Int) := by rw [hsub]; exact IntWalk.i64_in _ (by unfold maxLen at hmx; omega)
  have HS := Lib.hid hsub
  have hC0 := (Chg.refl (fun _ => False) w).alloc (.cells #[.slice none 0 0, .int .i64 0] 90)
  have z0 := new_cell w #[.slice none 0 0, .int .i64 0] 90 (i := 0) rfl
  have z1 := new_cell w #[.slice none 0 0, .int .i64 0] 90 (i := 1) rfl
  have f0 := new_frozen w #[.slice none 0 0, .int .i64 0] 90 0
  have f1 := new_frozen w #[.slice none 0 0, .int .i64 0] 90 1
  replace hcell := hC0.cell hcell id
  have hb := cell_lt hcell
  have HX := Lib.hid (show f.length < n by omega)
  have b1 : decide ((0 : Int) ≤ (f.length : Int)) = true := by simp
  have b2 : (f.length : Int) < (n : Int) := by omega
  clear hS hn hsub hC0
  go_enter Try.func99, Try.ntmps99
  go_wp2
  go_region
  have g0 : ((w.alloc (.cells #[.slice ax f.length cx, .int .i64 m] 90)).drew).cell? ⟨w.heap.size, 0, none⟩ = some (.slice ax f.length cx) := new_cell w #[.slice ax f.length cx, .int .i64 m] 90 (i := 0) rfl
  have g1 : ((w.alloc (.cells #[.slice ax f.length cx, .int .i64 m] 90)).drew).cell? ⟨w.heap.size, 1, none⟩ = some (.int .i64 m) := new_cell w #[.slice ax f.length cx, .int .i64 m] 90 (i := 1) rfl
  go_wp2
  simp [bodyPost, results, Try.results99, go_sem, g0, g1]
  exact ⟨fun W h => ⟨ax, cx, rfl, HXL.out W h⟩, ((Chg.refl _ _).alloc _).drew⟩
theorem mset1 {w : World} {g : Nat} {z0 : Value} (a : Value) (h0 : w.cell? ⟨g, 0, none⟩ = some z0) : (w.setCell ⟨g, 0, none⟩ a).cell? ⟨g, 0, none⟩ = some a := World.cell?_setCell_same' _ _ _ (by rw [h0]; rfl)
theorem mset2 {w : World} {g : Nat} {z0 z1 : Value} (a b : Value) (h0 : w.cell? ⟨g, 0, none⟩ = some z0) (h1 : w.cell? ⟨g, 1, none⟩ = some z1) :
    ((w.setCell ⟨g, 0, none⟩ a).setCell ⟨g, 1, none⟩ b).cell? ⟨g, 0, none⟩ = some a ∧ ((w.setCell ⟨g, 0, none⟩ a).setCell ⟨g, 1, none⟩ b).cell? ⟨g, 1, none⟩ = some b := by
  have e0 : (w.setCell ⟨g, 0, none⟩ a).cell? ⟨g, 0, none⟩ = some a := World.cell?_setCell_same' _ _ _ (by rw [h0]; rfl)
  exact ⟨by rw [World.cell?_setCell_other _ _ _ _ (by simp), e0], World.cell?_setCell_same' _ _ _ (by rw [World.cell?_setCell_other _ _ _ _ (by simp), h1]; rfl)⟩
theorem mway_store {D0 D3 : Nat → Prop} {w w3 : World} {rb x : Nat} {a b : Value} {W : Wy} {n : Int} (hW : WayAt w3 D3 (.agg #[a, b]) W) (hD : ∀ k, D3 k → D0 k ∨ x ≤ k) (hx : w.heap.size ≤ x) (hrb : w.heap.size ≤ rb) (hn : ¬ D3 rb) (hC : Chg (fun _ => False) w w3) (he : n = W.n) :
    GaveWD D0 w W (.returned (.tuple #[.agg #[a, b], .int .i64 n])) ((w3.setCell ⟨rb, 0, none⟩ a).setCell ⟨rb, 1, none⟩ b) := by
  subst he
  exact ⟨_, D3, rfl, hW.old (((Chg.refl _ w3).setCell (p := ⟨rb, 0, none⟩) (.inl hn) a).setCell (p := ⟨rb, 1, none⟩) (.inl hn) b), fun k hk => (hD k hk).imp id (fun h => Nat.le_trans hx h),
    (hC.setCell (p := ⟨rb, 0, none⟩) (.inr hrb) a).setCell (p := ⟨rb, 1, none⟩) (.inr hrb) b⟩
theorem mway_no {D0 : Nat → Prop} {w w3 : World} {rb : Nat} {n : Int} (hn : n ≠ 0) (hrb : w.heap.size ≤ rb) (hC : Chg (fun _ => False) w w3) :
    GaveWD D0 w (noW n) (.returned (.tuple #[.agg #[.slice none 0 0, .nilFunc], .int .i64 n])) ((w3.setCell ⟨rb, 0, none⟩ (.slice none 0 0)).setCell ⟨rb, 1, none⟩ .nilFunc) :=
  ⟨_, fun _ => False, rfl, .inr ⟨hn, rfl, rfl, rfl⟩, fun _ h => h.elim, (hC.setCell (p := ⟨rb, 0, none⟩) (.inr hrb) _).setCell (p := ⟨rb, 1, none⟩) (.inr hrb) _⟩
def limW (s : List Int) (g : List (Int × Int)) : Wy := if shB s then ⟨s, g, 0⟩ else noW 9
set_option maxHeartbeats 1000000 in
theorem limited_any (D : Nat → Prop) (gf : Nat) (lb : Array Value) (g : List (Int × Int)) (v : Value) (s : List Int) (w : World) (hS : Ls w v s) (hd : ∀ q, v.ownBlock = some q → D q) (hD : ∀ k, D k → k < w.heap.size) (hf : shB s = true → FnAt w D gf lb g) :
    Calls Try.prog 60 #[v, .func (.func gf) #[] lb] w (GaveWD D w (limW s g)) := by
  obtain ⟨ao, c, rfl, _⟩ := hS.form
  have hC0 := (Chg.refl (fun _ => False) w).alloc (.cells #[.slice none 0 0, .nilFunc] 31)
  have z0 := new_cell w #[.slice none 0 0, .nilFunc] 31 (i := 0) rfl
  have z1 := new_cell w #[.slice none 0 0, .nilFunc] 31 (i := 1) rfl
  have f0 := new_frozen w #[.slice none 0 0, .nilFunc] 31 0
  have f1 := new_frozen w #[.slice none 0 0, .nilFunc] 31 1
  have hc := count_any _ s _ (hS.fr hC0)
  unfold GaveC at hc
  have HS := Lib.hid hS
  have HF := Lib.hid hf
  have HD := Lib.hid hd
  have HL := Lib.hid hD
  clear hS hf hd hD
  cases hsh : shB s with
  | false =>
    have hE := cntE_not hsh
    have HR := Lib.hid (show limW s g = noW 9 by unfold limW; rw [hsh]; rfl)
    rw [hE] at hc
    clear hE hsh
    go_enter Try.func60, Try.ntmps60
    go_wp2_with fail
    refine hc.mono ?_
    clear hc
    rintro e9 w1 ⟨rfl, hw1⟩
    have hC1 : Chg (fun _ => False) (w.alloc (.cells #[.slice none 0 0, .nilFunc] 31)) w1 := hw1 ▸ Chg.refl _ _
    clear hw1
    replace f0 := hC1.frozen z0 f0 id
    replace f1 := hC1.frozen z1 f1 id
    replace z0 := hC1.cell z0 id
    replace z1 := hC1.cell z1 id
    obtain ⟨g0, g1⟩ := mset2 (.slice none 0 0) .nilFunc z0 z1
    have HC := Lib.hid (hC0.tr hC1)
    clear hC0 hC1
    go_wp2
    simp [bodyPost, results, Try.results60, go_sem, g0, g1]
    rw [HR.out]
    exact mway_no (by decide) (Nat.le_refl _) HC.out
  | true =>
    have hE := cntE_ok hsh
    have HR := Lib.hid (show limW s g = ⟨s, g, 0⟩ by unfold limW; rw [hsh]; rfl)
    have HSH := Lib.hid hsh
    rw [hE] at hc
    clear hE hsh
    go_enter Try.func60, Try.ntmps60
    go_wp2_with fail
    refine hc.mono ?_
    clear hc
    rintro e9 w1 ⟨rfl, hw1⟩
    have hC1 : Chg (fun _ => False) (w.alloc (.cells #[.slice none 0 0, .nilFunc] 31)) w1 := hw1 ▸ Chg.refl _ _
    clear hw1
    replace f0 := hC1.frozen z0 f0 id
    replace f1 := hC1.frozen z1 f1 id
    replace z0 := hC1.cell z0 id
    replace z1 := hC1.cell z1 id
    obtain ⟨g0, g1⟩ := mset2 (.slice ao s.length c) (.func (.func gf) #[] lb) z0 z1
    have HC := Lib.hid (hC0.tr hC1)
    clear hC0 hC1
    go_wp2
    simp [bodyPost, results, Try.results60, go_sem, g0, g1]
    rw [HR.out]
    exact mway_store (D3 := D) (x := w.heap.size) (.inl ⟨rfl, _, gf, lb, rfl, HS.out.fr HC.out, HD.out, (HF.out HSH.out).old (.of HC.out)⟩) (fun k hk => .inl hk) (Nat.le_refl _) (Nat.le_refl _) (fun hk => absurd (HL.out _ hk) (Nat.lt_irrefl _)) HC.out rfl
end Go.Proofs.Ytceooipljhjpaaa
