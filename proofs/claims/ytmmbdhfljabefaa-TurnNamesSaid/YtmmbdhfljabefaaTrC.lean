/- turn: reverse's way, told. -/
import Derived.Test.YtmmbdhfljabefaaTrB
namespace Go.Proofs.Ytmmbdhfljabefaa
open Go.RowKit Go.Shelf

theorem way_form {w : World} {D : Nat → Prop} {v : Value} {W : Wy} (h : WayAt w D v W) : (∃ ao n c gf lb, v = .agg #[.slice ao n c, .func (.func gf) #[] lb]) ∨ v = .agg #[.slice none 0 0, .nilFunc] := by
  rcases h with ⟨_, vs, gf, lb, rfl, hs, _⟩ | ⟨_, _, _, rfl⟩
  · obtain ⟨ao, c, rfl, _⟩ := hs.form
    exact .inl ⟨_, _, _, _, _, rfl⟩
  · exact .inr rfl
theorem way_store {D0 D3 : Nat → Prop} {w w3 : World} {rb x : Nat} {a b : Value} {W : Wy} {n : Int} (hW : WayAt w3 D3 (.agg #[a, b]) W) (hD : ∀ k, D3 k → D0 k ∨ x ≤ k) (hx : w.heap.size ≤ x) (hrb : w.heap.size ≤ rb) (hn : ¬ D3 rb) (hC : Chg (fun _ => False) w w3) (he : n = W.n) :
    GaveWD D0 w W (.returned (.tuple #[.agg #[a, b], .int .i64 n])) ((w3.setCell ⟨rb, 0, none⟩ a).setCell ⟨rb, 1, none⟩ b) := by
  subst he
  exact ⟨_, D3, rfl, hW.old (((Chg.refl _ w3).setCell (p := ⟨rb, 0, none⟩) (.inl hn) a).setCell (p := ⟨rb, 1, none⟩) (.inl hn) b), fun k hk => (hD k hk).imp id (fun h => Nat.le_trans hx h),
    (hC.setCell (p := ⟨rb, 0, none⟩) (.inr hrb) a).setCell (p := ⟨rb, 1, none⟩) (.inr hrb) b⟩
theorem way_no {D0 : Nat → Prop} {w w3 : World} {rb : Nat} {n : Int} (hn : n ≠ 0) (hrb : w.heap.size ≤ rb) (hC : Chg (fun _ => False) w w3) :
    GaveWD D0 w (noW n) (.returned (.tuple #[.agg #[.slice none 0 0, .nilFunc], .int .i64 n])) ((w3.setCell ⟨rb, 0, none⟩ (.slice none 0 0)).setCell ⟨rb, 1, none⟩ .nilFunc) :=
  ⟨_, fun _ => False, rfl, .inr ⟨hn, rfl, rfl, rfl⟩, fun _ h => h.elim, (hC.setCell (p := ⟨rb, 0, none⟩) (.inr hrb) _).setCell (p := ⟨rb, 1, none⟩) (.inr hrb) _⟩
theorem rev1_any (bl : Nat) (row k m : Int) (w : World) (x0 : w.cell? ⟨bl, 0, none⟩ = some (.int .i64 m)) (hm : m ≤ 4096) (hk : 0 ≤ k) (hk2 : k < m) : Calls Try.prog 79 (#[.int .i64 row, .int .i64 k] ++ #[.pointer (some ⟨bl, 0, none⟩)]) w (GaveI w (m - 1 - k)) := by
  have w1 : IntKind.i64.wrap (m - 1) = m - 1 := IntWalk.i64_in _ (by omega)
  have w2 : IntKind.i64.wrap (m - 1 - k) = m - 1 - k := IntWalk.i64_in _ (by omega)
  go_enter Try.func79, Try.ntmps79
  go_wp2
  go_ret
  exact ⟨rfl, Chg.refl _ _⟩
def revF (s : List Int) (i : Nat) : Int := rowN s - 1 - (i : Int) % rowN s
def revG (s : List Int) : List (Int × Int) := alongG s (revF s)
def Blk (v : Value) (q : Nat) : Prop := v.ownBlock = some q
set_option maxRecDepth 100000 in
set_option maxHeartbeats 1000000 in
theorem vrev_any (v : Value) (s : List Int) (w : World) (ho : Ls w v s) (hlt : ∀ q, Blk v q → q < w.heap.size) (hsh : shB s = true) :
    Calls Try.prog 46 #[.agg #[v]] w (GaveWD (Blk v) w ⟨s, revG s, 0⟩) := by
  obtain ⟨ao, c, rfl, _⟩ := ho.form
  have hC0 := ((Chg.refl (fun _ => False) w).alloc (.cells #[.slice ao s.length c] 69)).alloc (.cells #[.slice none 0 0, .nilFunc] 31)
  have y0 := alloc_cell (new_cell w #[.slice ao s.length c] 69 (i := 0) rfl) (.cells #[.slice none 0 0, .nilFunc] 31)
  have z0 := new_cell (w.alloc (.cells #[.slice ao s.length c] 69)) #[.slice none 0 0, .nilFunc] 31 (i := 0) rfl
  have z1 := new_cell (w.alloc (.cells #[.slice ao s.length c] 69)) #[.slice none 0 0, .nilFunc] 31 (i := 1) rfl
  have f0 := new_frozen (w.alloc (.cells #[.slice ao s.length c] 69)) #[.slice none 0 0, .nilFunc] 31 0
  have f1 := new_frozen (w.alloc (.cells #[.slice ao s.length c] 69)) #[.slice none 0 0, .nilFunc] 31 1
  simp only [World.size_alloc] at z0 z1 f0 f1
  have hrow := row_any _ s _ (ho.fr hC0) (by have := (shB_iff.1 hsh).1; omega)
  have HO := Lib.hid (ho.fr hC0)
  obtain ⟨m, hm⟩ : ∃ m, rowN s = m := ⟨_, rfl⟩
  rw [hm] at hrow
  have HM := Lib.hid hm
  clear ho hm
  go_enter Try.func46, Try.ntmps46
  go_wp2_with fail
  refine hrow.mono ?_
  clear hrow
  rintro e9 w1 ⟨rfl, hC1⟩
  have hsz : w.heap.size + 1 < w1.heap.size := cell_lt (hC1.cell z0 id)
  have hsz0 : w.heap.size < w1.heap.size := by omega
  have hC2 := hC1.alloc (.cells #[.int .i64 m] 3)
  have l0 := new_cell w1 #[.int .i64 m] 3 (i := 0) rfl
  replace f0 := hC2.frozen z0 f0 id
  replace f1 := hC2.frozen z1 f1 id
  replace y0 := hC1.cell y0 id
  replace z0 := hC2.cell z0 id
  replace z1 := hC2.cell z1 id
  have hto : ToAt (w1.alloc (.cells #[.int .i64 m] 3)) (fun k => Blk (.slice ao s.length c) k ∨ k = w1.heap.size) 79 #[.pointer (some ⟨w1.heap.size, 0, none⟩)] (rowN s) (cnt s) (revF s) :=
    ⟨enters_of Try.func79 (by kernel_rfl) rfl, fun i hi w' hw' => by
      obtain ⟨p1, p2, p3⟩ := ediv_lt_cnt hsh hi
      unfold revF
      rw [HM.out] at p1 p2 ⊢
      exact rev1_any w1.heap.size _ _ m w' (hw'.cell l0 (.inr rfl)) p2 (Int.emod_nonneg _ (by omega)) (Int.emod_lt_of_pos _ p1)⟩
  have hal := along_any (fun k => Blk (.slice ao s.length c) k ∨ k = w1.heap.size) 79 #[.pointer (some ⟨w1.heap.size, 0, none⟩)] _ s (revF s) _ (HO.out.fr hC2) (fun q hq => .inl hq) hsh hto (fun i hi => by
      obtain ⟨p1, p2, p3⟩ := ediv_lt_cnt hsh hi
      unfold revF
      have := Int.emod_nonneg (i : Int) (show rowN s ≠ 0 by omega)
      have := Int.emod_lt_of_pos (i : Int) p1
      omega)
  have HC := Lib.hid (hC0.tr hC2)
  clear hto l0 hC0 hC1 hC2
  go_wp2_with fail
  refine hal.mono ?_
  clear hal
  rintro e9 w3 ⟨v3, D3, rfl, hW3, hD3, hC3⟩
  replace f0 := hC3.frozen z0 f0 id
  replace f1 := hC3.frozen z1 f1 id
  replace z0 := hC3.cell z0 id
  replace z1 := hC3.cell z1 id
  obtain ⟨_, vs3, gf3, lb3, rfl, hs3, hd3, hf3⟩ := id (hW3.resolve_right (fun h => h.1 rfl))
  simp only at hs3
  obtain ⟨a3, c3, rfl, _⟩ := hs3.form
  obtain ⟨g0, g1⟩ := set2_cells (.slice a3 s.length c3) (.func (.func gf3) #[] lb3) z0 z1
  have HW := Lib.hid hW3
  have HD := Lib.hid hD3
  have HC3 := Lib.hid hC3
  clear hs3 hd3 hf3 hW3 hD3 hC3 y0
  go_wp2
  simp [bodyPost, results, Try.results46, go_sem, g0, g1]
  refine way_store (x := w.heap.size) HW.out (fun k hk => ?_) (Nat.le_refl _) (Nat.le_succ _) (fun hk => ?_) (HC.out.tr HC3.out) rfl
  · rcases HD.out k hk with (h | h) | h
    · exact .inl h
    · exact .inr (by omega)
    · exact .inr (by simp at h; omega)
  · rcases HD.out _ hk with (h | h) | h
    · have := hlt _ h; omega
    · omega
    · simp at h; omega
def toldW (s : List Int) (W : Wy) : Wy := if shB s then W else noW 110
set_option maxRecDepth 100000 in
set_option maxHeartbeats 1000000 in
theorem told_any (v : Value) (s : List Int) (gw : Nat) (W : Wy) (w : World) (hS : Ls w v s) (hl : s.length ≤ 1000000) (hn : W.n = 0) (eg : ∀ args w, (callFunc gw args).run Try.prog w = .ok (.enter gw args) w)
    (hw : shB s = true → ∀ v' w', Ls w' v' s → (∀ q, Blk v' q → q < w'.heap.size) → Calls Try.prog gw #[.agg #[v']] w' (GaveWD (Blk v') w' W)) : Calls Try.prog 45 #[v, .func (.func gw) #[] #[]] w (GaveW w (toldW s W)) := by
  obtain ⟨ao, c, rfl, _⟩ := hS.form
  have hC0 := (Chg.refl (fun _ => False) w).alloc (.cells #[.slice none 0 0, .nilFunc] 31)
  have z0 := new_cell w #[.slice none 0 0, .nilFunc] 31 (i := 0) rfl
  have z1 := new_cell w #[.slice none 0 0, .nilFunc] 31 (i := 1) rfl
  have f0 := new_frozen w #[.slice none 0 0, .nilFunc] 31 0
  have f1 := new_frozen w #[.slice none 0 0, .nilFunc] 31 1
  have hse := seen_any _ s _ (hS.fr hC0) hl
  unfold GaveSeen at hse
  have HW0 := Lib.hid hw
  clear hS hw
  cases hsh : shB s with
  | false =>
    have hE := cntE_not hsh
    have HR := Lib.hid (show toldW s W = noW 110 by unfold toldW; rw [hsh]; rfl)
    rw [hE] at hse
    clear hE hsh
    go_enter Try.func45, Try.ntmps45
    go_wp2_with fail
    refine hse.mono ?_
    clear hse
    rintro e9 w1 ⟨v1, rfl, ho1, hC1⟩
    obtain ⟨a1, c1, rfl⟩ := own_name ho1
    have hsz : w.heap.size < w1.heap.size := cell_lt (hC1.cell z0 id)
    replace f0 := hC1.frozen z0 f0 id
    replace f1 := hC1.frozen z1 f1 id
    replace z0 := hC1.cell z0 id
    replace z1 := hC1.cell z1 id
    have HC := Lib.hid (hC0.tr hC1)
    obtain ⟨g0, g1⟩ := set2_cells (.slice none 0 0) .nilFunc z0 z1
    replace g0 := alloc_cell g0 (.cells #[.slice a1 s.length c1] 69)
    replace g1 := alloc_cell g1 (.cells #[.slice a1 s.length c1] 69)
    clear hC1 ho1 hC0
    go_wp2
    simp [bodyPost, results, Try.results45, go_sem, g0, g1]
    rw [HR.out]
    exact ⟨_, fun _ => False, rfl, .inr ⟨by decide, rfl, rfl, rfl⟩, fun _ h => h.elim, ((HC.out.setCell (p := ⟨w.heap.size, 0, none⟩) (.inr (Nat.le_refl _)) _).setCell (p := ⟨w.heap.size, 1, none⟩) (.inr (Nat.le_refl _)) _).alloc _⟩
  | true =>
    have hE := cntE_ok hsh
    have HR := Lib.hid (show toldW s W = W by unfold toldW; rw [hsh]; rfl)
    rw [hE] at hse
    have hw := HW0.out hsh
    have HW1 := Lib.hid hw
    clear hE hsh hw
    go_enter Try.func45, Try.ntmps45
    go_wp2_with fail
    refine hse.mono ?_
    clear hse
    rintro e9 w1 ⟨v1, rfl, ho1, hC1⟩
    obtain ⟨a1, c1, rfl⟩ := own_name ho1
    have hsz : w.heap.size < w1.heap.size := cell_lt (hC1.cell z0 id)
    have hC2 := hC1.alloc (.cells #[.slice a1 s.length c1] 69)
    have hcall := HW1.out (.slice a1 s.length c1) (w1.alloc (.cells #[.slice a1 s.length c1] 69)) (ho1.ls.fr ((Chg.refl _ w1).alloc _)) (fun q hq => by have := (ho1.lt q hq).2; simp; omega)
    replace f0 := hC2.frozen z0 f0 id
    replace f1 := hC2.frozen z1 f1 id
    replace z0 := hC2.cell z0 id
    replace z1 := hC2.cell z1 id
    have hn1 : ∀ q, Blk (.slice a1 s.length c1) q → w.heap.size < q := fun q hq => by have := (ho1.lt q hq).1; simp at this; omega
    have HC := Lib.hid (hC0.tr hC2)
    have HN := Lib.hid hn1
    have HN0 := Lib.hid hn
    clear hC1 hC2 hC0 ho1 hn1 hn
    go_wp2_with fail
    refine hcall.mono ?_
    clear hcall
    rintro e9 w3 ⟨v3, D3, rfl, hW3, hD3, hC3⟩
    replace f0 := hC3.frozen z0 f0 id
    replace f1 := hC3.frozen z1 f1 id
    replace z0 := hC3.cell z0 id
    replace z1 := hC3.cell z1 id
    obtain ⟨_, vs3, gf3, lb3, rfl, hs3, hd3, hf3⟩ := id (hW3.resolve_right (fun h => h.1 HN0.out))
    obtain ⟨a3, c3, rfl, _⟩ := hs3.form
    obtain ⟨g0, g1⟩ := set2_cells (.slice a3 W.s.length c3) (.func (.func gf3) #[] lb3) z0 z1
    have HW := Lib.hid hW3
    have HD := Lib.hid hD3
    have HC3 := Lib.hid hC3
    clear hs3 hd3 hf3 hW3 hD3 hC3
    rw [HN0.out]
    go_wp2
    simp [bodyPost, results, Try.results45, go_sem, g0, g1]
    rw [HR.out]
    refine way_store (x := w.heap.size) HW.out (fun k hk => ?_) (Nat.le_refl _) (Nat.le_refl _) (fun hk => ?_) (HC.out.tr HC3.out) HN0.out.symm
    · rcases HD.out k hk with h | h
      · exact .inr (Nat.le_of_lt (HN.out _ h))
      · exact .inr (by simp at h; omega)
    · rcases HD.out _ hk with h | h
      · exact absurd (HN.out _ h) (by omega)
      · simp at h; omega
def revW (s : List Int) : Wy := toldW s ⟨s, revG s, 0⟩
set_option maxHeartbeats 1000000 in
theorem revway_any (v : Value) (s : List Int) (w : World) (hS : Ls w v s) (hl : s.length ≤ 1000000) : Calls Try.prog 14 #[v] w (GaveW w (revW s)) := by
  obtain ⟨ao, c, rfl, _⟩ := hS.form
  have hC0 := (Chg.refl (fun _ => False) w).alloc (.cells #[.slice none 0 0, .nilFunc] 31)
  have z0 := new_cell w #[.slice none 0 0, .nilFunc] 31 (i := 0) rfl
  have z1 := new_cell w #[.slice none 0 0, .nilFunc] 31 (i := 1) rfl
  have f0 := new_frozen w #[.slice none 0 0, .nilFunc] 31 0
  have f1 := new_frozen w #[.slice none 0 0, .nilFunc] 31 1
  have htd := told_any _ s 46 ⟨s, revG s, 0⟩ _ (hS.fr hC0) hl rfl (enters_of Try.func46 (by kernel_rfl) rfl) (fun h v' w' h1 h2 => vrev_any v' s w' h1 h2 h)
  unfold revW
  generalize toldW s ⟨s, revG s, 0⟩ = W at *
  have HC := Lib.hid hC0
  clear hS
  go_enter Try.func14, Try.ntmps14
  go_wp2_with fail
  refine htd.mono ?_
  clear htd hC0
  rintro e9 w3 ⟨v3, D3, rfl, hW3, hD3, hC3⟩
  replace f0 := hC3.frozen z0 f0 id
  replace f1 := hC3.frozen z1 f1 id
  replace z0 := hC3.cell z0 id
  replace z1 := hC3.cell z1 id
  rcases way_form hW3 with ⟨a3, n3, c3, gf3, lb3, rfl⟩ | rfl
  · obtain ⟨g0, g1⟩ := set2_cells (.slice a3 n3 c3) (.func (.func gf3) #[] lb3) z0 z1
    have HW := Lib.hid hW3
    have HD := Lib.hid hD3
    have HC3 := Lib.hid hC3
    clear hW3 hD3 hC3
    go_wp2
    simp [bodyPost, results, Try.results14, go_sem, g0, g1]
    exact way_store (x := w.heap.size) HW.out (fun k hk => ((HD.out k hk).imp id (fun h => by simp at h; omega))) (Nat.le_refl _) (Nat.le_refl _) (fun hk => ((HD.out _ hk).elim id (fun h => by rw [World.size_alloc] at h; omega))) (HC.out.tr HC3.out) rfl
  · obtain ⟨g0, g1⟩ := set2_cells (.slice none 0 0) .nilFunc z0 z1
    have HW := Lib.hid hW3
    have HD := Lib.hid hD3
    have HC3 := Lib.hid hC3
    clear hW3 hD3 hC3
    go_wp2
    simp [bodyPost, results, Try.results14, go_sem, g0, g1]
    exact way_store (x := w.heap.size) HW.out (fun k hk => ((HD.out k hk).imp id (fun h => by simp at h; omega))) (Nat.le_refl _) (Nat.le_refl _) (fun hk => ((HD.out _ hk).elim id (fun h => by rw [World.size_alloc] at h; omega))) (HC.out.tr HC3.out) rfl
end Go.Proofs.Ytmmbdhfljabefaa
