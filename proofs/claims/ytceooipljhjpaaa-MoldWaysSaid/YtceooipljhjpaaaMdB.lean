/- mold: sides. -/
import Derived.Test.YtceooipljhjpaaaMdA
namespace Go.Proofs.Ytceooipljhjpaaa
open Go.RowKit Go.Shelf

def SidesP (w : World) (f1 : List Int) (m1 : Int) (f2 : List Int) (m2 : Int) (bb : Bool) (e : Ending) (w' : World) : Prop :=
  ∃ x y, e = .returned (.tuple #[x, y, .bool bb]) ∧ SideAt w x f1 m1 ∧ SideAt w y f2 m2 ∧ Chg (fun _ => False) w w'
theorem mset4 {w : World} {p q : Nat} {z0 z1 z2 z3 : Value} (a b c d : Value) (hne : p ≠ q) (h0 : w.cell? ⟨p, 0, none⟩ = some z0) (h1 : w.cell? ⟨p, 1, none⟩ = some z1) (h2 : w.cell? ⟨q, 0, none⟩ = some z2) (h3 : w.cell? ⟨q, 1, none⟩ = some z3) :
    (((((w.setCell ⟨p, 0, none⟩ a).setCell ⟨p, 1, none⟩ b).setCell ⟨q, 0, none⟩ c).setCell ⟨q, 1, none⟩ d).cell? ⟨p, 0, none⟩ = some a ∧ ((((w.setCell ⟨p, 0, none⟩ a).setCell ⟨p, 1, none⟩ b).setCell ⟨q, 0, none⟩ c).setCell ⟨q, 1, none⟩ d).cell? ⟨p, 1, none⟩ = some b) ∧
    ((((w.setCell ⟨p, 0, none⟩ a).setCell ⟨p, 1, none⟩ b).setCell ⟨q, 0, none⟩ c).setCell ⟨q, 1, none⟩ d).cell? ⟨q, 0, none⟩ = some c ∧ ((((w.setCell ⟨p, 0, none⟩ a).setCell ⟨p, 1, none⟩ b).setCell ⟨q, 0, none⟩ c).setCell ⟨q, 1, none⟩ d).cell? ⟨q, 1, none⟩ = some d := by
  obtain ⟨g0, g1⟩ := mset2 a b h0 h1
  have hX : Chg (fun k => k = p) w ((w.setCell ⟨p, 0, none⟩ a).setCell ⟨p, 1, none⟩ b) := ((Chg.refl (fun k => k = p) w).setCell (p := ⟨p, 0, none⟩) (.inl rfl) a).setCell (p := ⟨p, 1, none⟩) (.inl rfl) b
  have hY : ∀ W : World, Chg (fun k => k = q) W ((W.setCell ⟨q, 0, none⟩ c).setCell ⟨q, 1, none⟩ d) := fun W => ((Chg.refl (fun k => k = q) W).setCell (p := ⟨q, 0, none⟩) (.inl rfl) c).setCell (p := ⟨q, 1, none⟩) (.inl rfl) d
  obtain ⟨k0, k1⟩ := mset2 c d (hX.cell h2 (fun e => hne e.symm)) (hX.cell h3 (fun e => hne e.symm))
  exact ⟨⟨(hY _).cell g0 hne, (hY _).cell g1 hne⟩, k0, k1⟩
theorem mchg4 {w W : World} {p q : Nat} (hC : Chg (fun _ => False) w W) (hp : w.heap.size ≤ p) (hq : w.heap.size ≤ q) (a b c d : Value) : Chg (fun _ => False) w ((((W.setCell ⟨p, 0, none⟩ a).setCell ⟨p, 1, none⟩ b).setCell ⟨q, 0, none⟩ c).setCell ⟨q, 1, none⟩ d) :=
  (((hC.setCell (p := ⟨p, 0, none⟩) (.inr hp) _).setCell (p := ⟨p, 1, none⟩) (.inr hp) _).setCell (p := ⟨q, 0, none⟩) (.inr hq) _).setCell (p := ⟨q, 1, none⟩) (.inr hq) _
set_option maxHeartbeats 1000000 in
/-- Each has axes, and they have as many. -/
theorem sides_same (u v : Value) (fa fb : List Int) (ma mb : Int) (w : World) (hU : Ls w u (fa ++ [ma])) (hV : Ls w v (fb ++ [mb])) (hl : fa.length = fb.length) : Calls Try.prog 68 #[u, v] w (SidesP w fa ma fb mb true) := by
  obtain ⟨au, cu, rfl, _⟩ := hU.form
  obtain ⟨av, cv, rfl, _⟩ := hV.form
  have hC0 := ((Chg.refl (fun _ => False) w).alloc (.cells #[.slice none 0 0, .int .i64 0] 90)).alloc (.cells #[.slice none 0 0, .int .i64 0] 90)
  have hC1 : Chg (fun _ => False) _ ((w.alloc (.cells #[.slice none 0 0, .int .i64 0] 90)).alloc (.cells #[.slice none 0 0, .int .i64 0] 90)) := (Chg.refl _ _).alloc _
  have z0 := hC1.cell (new_cell w #[.slice none 0 0, .int .i64 0] 90 (i := 0) rfl) id
  have z1 := hC1.cell (new_cell w #[.slice none 0 0, .int .i64 0] 90 (i := 1) rfl) id
  have f0 := hC1.frozen (new_cell w #[.slice none 0 0, .int .i64 0] 90 (i := 0) rfl) (new_frozen w #[.slice none 0 0, .int .i64 0] 90 0) id
  have f1 := hC1.frozen (new_cell w #[.slice none 0 0, .int .i64 0] 90 (i := 1) rfl) (new_frozen w #[.slice none 0 0, .int .i64 0] 90 1) id
  have y0 := new_cell (w.alloc (.cells #[.slice none 0 0, .int .i64 0] 90)) #[.slice none 0 0, .int .i64 0] 90 (i := 0) rfl
  have y1 := new_cell (w.alloc (.cells #[.slice none 0 0, .int .i64 0] 90)) #[.slice none 0 0, .int .i64 0] 90 (i := 1) rfl
  have e0 := new_frozen (w.alloc (.cells #[.slice none 0 0, .int .i64 0] 90)) #[.slice none 0 0, .int .i64 0] 90 0
  have e1 := new_frozen (w.alloc (.cells #[.slice none 0 0, .int .i64 0] 90)) #[.slice none 0 0, .int .i64 0] 90 1
  clear hC1
  rw [World.size_alloc] at y0 y1 e0 e1
  have h1 := slast_any _ fa ma _ (hU.fr hC0)
  have hv2 := fun w' h => slast_any _ fb mb w' ((hV.fr hC0).fr h)
  have HU := Lib.hid hU
  have HV := Lib.hid hV
  have HC := Lib.hid hC0
  obtain ⟨n, hn⟩ : ∃ n, (fa ++ [ma]).length = n := ⟨_, rfl⟩
  have hn2 : (fb ++ [mb]).length = n := by rw [← hn]; simp [hl]
  rw [hn] at h1 HU ⊢
  rw [hn2] at hv2 HV ⊢
  have hp : 0 < n := by rw [← hn]; simp
  have b1 : ((n : Int) == 0) = false := beq_eq_false_iff_ne.2 (by omega)
  have b2 : ((n : Int) == (n : Int)) = true := beq_self_eq_true _
  clear hn hn2 hp hl hC0 hU hV
  have HV2 := Lib.hid hv2
  clear hv2
  go_enter Try.func68, Try.ntmps68
  go_wp2_with fail
  refine h1.mono ?_
  clear h1
  rintro e9 w1 ⟨x1, rfl, hx1, hD1⟩
  have HX1 := Lib.hid (hx1 w HU.out)
  obtain ⟨ax1, cx1, rfl, _⟩ := id HX1.out
  replace f0 := hD1.frozen z0 f0 id
  replace f1 := hD1.frozen z1 f1 id
  replace e0 := hD1.frozen y0 e0 id
  replace e1 := hD1.frozen y1 e1 id
  replace z0 := hD1.cell z0 id
  replace z1 := hD1.cell z1 id
  replace y0 := hD1.cell y0 id
  replace y1 := hD1.cell y1 id
  have h2 := HV2.out w1 hD1
  clear hx1
  have HD1 := Lib.hid hD1
  clear hD1
  go_wp2_with fail
  refine h2.mono ?_
  clear h2
  rintro e9 w2 ⟨x2, rfl, hx2, hD2⟩
  have HX2 := Lib.hid (hx2 w HV.out)
  obtain ⟨ax2, cx2, rfl, _⟩ := id HX2.out
  replace f0 := hD2.frozen z0 f0 id
  replace f1 := hD2.frozen z1 f1 id
  replace e0 := hD2.frozen y0 e0 id
  replace e1 := hD2.frozen y1 e1 id
  replace z0 := hD2.cell z0 id
  replace z1 := hD2.cell z1 id
  replace y0 := hD2.cell y0 id
  replace y1 := hD2.cell y1 id
  have HC2 := Lib.hid ((HC.out.tr HD1.out).tr hD2)
  clear hx2 hD2
  obtain ⟨⟨g0, g1⟩, g2, g3⟩ := mset4 (.slice ax1 fa.length cx1) (.int .i64 ma) (.slice ax2 fb.length cx2) (.int .i64 mb) (Nat.ne_of_lt (Nat.lt_succ_self w.heap.size)) z0 z1 y0 y1
  go_wp2
  simp [bodyPost, results, Try.results68, go_sem, g0, g1, g2, g3]
  exact ⟨_, _, rfl, HX1.out, HX2.out, mchg4 HC2.out (Nat.le_refl _) (Nat.le_succ _) _ _ _ _⟩
theorem mwrap {x : Int} (h : -9223372036854775808 ≤ x ∧ x ≤ 9223372036854775807) : wrap64 x = x := by
  rw [show wrap64 x = IntKind.i64.wrap x by rw [IntKind.wrap_i64, wrap64]]
  exact IntWalk.i64_in _ (by omega)
set_option maxHeartbeats 1000000 in
/-- The first one has an axis less. -/
theorem sides_less (u v : Value) (a fb : List Int) (mb : Int) (w : World) (hU : Ls w u a) (hV : Ls w v (fb ++ [mb])) (ha : a ≠ []) (hl : a.length = fb.length) : Calls Try.prog 68 #[u, v] w (SidesP w a 1 fb mb true) := by
  obtain ⟨au, cu, rfl, hcu, hmu, _⟩ := hU.form
  obtain ⟨av, cv, rfl, hcv, hmv, _⟩ := hV.form
  have hC0 := ((Chg.refl (fun _ => False) w).alloc (.cells #[.slice none 0 0, .int .i64 0] 90)).alloc (.cells #[.slice none 0 0, .int .i64 0] 90)
  have hC1 : Chg (fun _ => False) _ ((w.alloc (.cells #[.slice none 0 0, .int .i64 0] 90)).alloc (.cells #[.slice none 0 0, .int .i64 0] 90)) := (Chg.refl _ _).alloc _
  have z0 := hC1.cell (new_cell w #[.slice none 0 0, .int .i64 0] 90 (i := 0) rfl) id
  have z1 := hC1.cell (new_cell w #[.slice none 0 0, .int .i64 0] 90 (i := 1) rfl) id
  have f0 := hC1.frozen (new_cell w #[.slice none 0 0, .int .i64 0] 90 (i := 0) rfl) (new_frozen w #[.slice none 0 0, .int .i64 0] 90 0) id
  have f1 := hC1.frozen (new_cell w #[.slice none 0 0, .int .i64 0] 90 (i := 1) rfl) (new_frozen w #[.slice none 0 0, .int .i64 0] 90 1) id
  have y0 := new_cell (w.alloc (.cells #[.slice none 0 0, .int .i64 0] 90)) #[.slice none 0 0, .int .i64 0] 90 (i := 0) rfl
  have y1 := new_cell (w.alloc (.cells #[.slice none 0 0, .int .i64 0] 90)) #[.slice none 0 0, .int .i64 0] 90 (i := 1) rfl
  have e0 := new_frozen (w.alloc (.cells #[.slice none 0 0, .int .i64 0] 90)) #[.slice none 0 0, .int .i64 0] 90 0
  have e1 := new_frozen (w.alloc (.cells #[.slice none 0 0, .int .i64 0] 90)) #[.slice none 0 0, .int .i64 0] 90 1
  clear hC1
  rw [World.size_alloc] at y0 y1 e0 e1
  have HU := Lib.hid hU
  have HV := Lib.hid hV
  have HC := Lib.hid hC0
  obtain ⟨n, hn⟩ : ∃ n, a.length = n := ⟨_, rfl⟩
  obtain ⟨m, hm⟩ : ∃ m, (fb ++ [mb]).length = m := ⟨_, rfl⟩
  have h1 := slast_any _ fb mb _ (hV.fr hC0)
  have hp : 0 < n := by rw [← hn]; exact List.length_pos_iff.2 ha
  have hm2 : m = n + 1 := by rw [← hm, ← hn]; simp [hl]
  rw [hm] at h1 HV ⊢
  rw [hn] at HU ⊢
  have b1 : ((n : Int) == 0) = false := beq_eq_false_iff_ne.2 (by omega)
  have b2 : ((m : Int) == 0) = false := beq_eq_false_iff_ne.2 (by omega)
  have b3 : ((n : Int) == (m : Int)) = false := beq_eq_false_iff_ne.2 (by omega)
  have b4 : ((n : Int) == wrap64 ((m : Int) - 1)) = true := by
    rw [mwrap (by unfold maxLen at hmv; omega)]
    exact beq_iff_eq.2 (by omega)
  clear hm hm2 hp hl hC0 hU hV ha hcu hcv hmu hmv
  go_enter Try.func68, Try.ntmps68
  go_wp2_with fail
  refine h1.mono ?_
  clear h1
  rintro e9 w1 ⟨x1, rfl, hx1, hD1⟩
  have HX1 := Lib.hid (hx1 w HV.out)
  obtain ⟨ax1, cx1, rfl, _⟩ := id HX1.out
  replace f0 := hD1.frozen z0 f0 id
  replace f1 := hD1.frozen z1 f1 id
  replace e0 := hD1.frozen y0 e0 id
  replace e1 := hD1.frozen y1 e1 id
  replace z0 := hD1.cell z0 id
  replace z1 := hD1.cell z1 id
  replace y0 := hD1.cell y0 id
  replace y1 := hD1.cell y1 id
  have HC2 := Lib.hid (HC.out.tr hD1)
  clear hx1 hD1
  obtain ⟨⟨g0, g1⟩, g2, g3⟩ := mset4 (.slice au n cu) (.int .i64 1) (.slice ax1 fb.length cx1) (.int .i64 mb) (Nat.ne_of_lt (Nat.lt_succ_self w.heap.size)) z0 z1 y0 y1
  go_wp2
  simp [bodyPost, results, Try.results68, go_sem, g0, g1, g2, g3]
  exact ⟨_, _, rfl, ⟨au, cu, by rw [hn], by rw [hn]; exact HU.out⟩, HX1.out, mchg4 HC2.out (Nat.le_refl _) (Nat.le_succ _) _ _ _ _⟩
set_option maxHeartbeats 1000000 in
/-- The second one has an axis less. -/
theorem sides_more (u v : Value) (b fa : List Int) (ma : Int) (w : World) (hU : Ls w u (fa ++ [ma])) (hV : Ls w v b) (hb : b ≠ []) (hl : b.length = fa.length) : Calls Try.prog 68 #[u, v] w (SidesP w fa ma b 1 true) := by
  obtain ⟨au, cu, rfl, hcu, hmu, _⟩ := hU.form
  obtain ⟨av, cv, rfl, hcv, hmv, _⟩ := hV.form
  have hC0 := ((Chg.refl (fun _ => False) w).alloc (.cells #[.slice none 0 0, .int .i64 0] 90)).alloc (.cells #[.slice none 0 0, .int .i64 0] 90)
  have hC1 : Chg (fun _ => False) _ ((w.alloc (.cells #[.slice none 0 0, .int .i64 0] 90)).alloc (.cells #[.slice none 0 0, .int .i64 0] 90)) := (Chg.refl _ _).alloc _
  have z0 := hC1.cell (new_cell w #[.slice none 0 0, .int .i64 0] 90 (i := 0) rfl) id
  have z1 := hC1.cell (new_cell w #[.slice none 0 0, .int .i64 0] 90 (i := 1) rfl) id
  have f0 := hC1.frozen (new_cell w #[.slice none 0 0, .int .i64 0] 90 (i := 0) rfl) (new_frozen w #[.slice none 0 0, .int .i64 0] 90 0) id
  have f1 := hC1.frozen (new_cell w #[.slice none 0 0, .int .i64 0] 90 (i := 1) rfl) (new_frozen w #[.slice none 0 0, .int .i64 0] 90 1) id
  have y0 := new_cell (w.alloc (.cells #[.slice none 0 0, .int .i64 0] 90)) #[.slice none 0 0, .int .i64 0] 90 (i := 0) rfl
  have y1 := new_cell (w.alloc (.cells #[.slice none 0 0, .int .i64 0] 90)) #[.slice none 0 0, .int .i64 0] 90 (i := 1) rfl
  have e0 := new_frozen (w.alloc (.cells #[.slice none 0 0, .int .i64 0] 90)) #[.slice none 0 0, .int .i64 0] 90 0
  have e1 := new_frozen (w.alloc (.cells #[.slice none 0 0, .int .i64 0] 90)) #[.slice none 0 0, .int .i64 0] 90 1
  clear hC1
  rw [World.size_alloc] at y0 y1 e0 e1
  have HU := Lib.hid hU
  have HV := Lib.hid hV
  have HC := Lib.hid hC0
  obtain ⟨n, hn⟩ : ∃ n, (fa ++ [ma]).length = n := ⟨_, rfl⟩
  obtain ⟨m, hm⟩ : ∃ m, b.length = m := ⟨_, rfl⟩
  have h1 := slast_any _ fa ma _ (hU.fr hC0)
  have hp : 0 < m := by rw [← hm]; exact List.length_pos_iff.2 hb
  have hm2 : n = m + 1 := by rw [← hm, ← hn]; simp [hl]
  rw [hn] at h1 HU ⊢
  rw [hm] at HV ⊢
  have b1 : ((n : Int) == 0) = false := beq_eq_false_iff_ne.2 (by omega)
  have b2 : ((m : Int) == 0) = false := beq_eq_false_iff_ne.2 (by omega)
  have b3 : ((n : Int) == (m : Int)) = false := beq_eq_false_iff_ne.2 (by omega)
  have b4 : ((n : Int) == wrap64 ((m : Int) - 1)) = false := by
    rw [mwrap (by unfold maxLen at hmv; omega)]
    exact beq_eq_false_iff_ne.2 (by omega)
  have b5 : ((n : Int) == wrap64 ((m : Int) + 1)) = true := by
    rw [mwrap (by unfold maxLen at hmu; omega)]
    exact beq_iff_eq.2 (by omega)
  clear hn hm2 hp hl hC0 hU hV hb hcu hcv hmu hmv
  go_enter Try.func68, Try.ntmps68
  go_wp2_with fail
  refine h1.mono ?_
  clear h1
  rintro e9 w1 ⟨x1, rfl, hx1, hD1⟩
  have HX1 := Lib.hid (hx1 w HU.out)
  obtain ⟨ax1, cx1, rfl, _⟩ := id HX1.out
  replace f0 := hD1.frozen z0 f0 id
  replace f1 := hD1.frozen z1 f1 id
  replace e0 := hD1.frozen y0 e0 id
  replace e1 := hD1.frozen y1 e1 id
  replace z0 := hD1.cell z0 id
  replace z1 := hD1.cell z1 id
  replace y0 := hD1.cell y0 id
  replace y1 := hD1.cell y1 id
  have HC2 := Lib.hid (HC.out.tr hD1)
  clear hx1 hD1
  obtain ⟨⟨g0, g1⟩, g2, g3⟩ := mset4 (.slice ax1 fa.length cx1) (.int .i64 ma) (.slice av m cv) (.int .i64 1) (Nat.ne_of_lt (Nat.lt_succ_self w.heap.size)) z0 z1 y0 y1
  go_wp2
  simp [bodyPost, results, Try.results68, go_sem, g0, g1, g2, g3]
  exact ⟨_, _, rfl, HX1.out, ⟨av, cv, by rw [hm], by rw [hm]; exact HV.out⟩, mchg4 HC2.out (Nat.le_refl _) (Nat.le_succ _) _ _ _ _⟩
set_option maxHeartbeats 1000000 in
/-- Neither has axes. -/
theorem sides_none (u v : Value) (w : World) (hU : Ls w u []) (hV : Ls w v []) : Calls Try.prog 68 #[u, v] w (SidesP w [] 1 [] 1 true) := by
  obtain ⟨au, cu, rfl, _⟩ := hU.form
  obtain ⟨av, cv, rfl, _⟩ := hV.form
  clear hU hV
  go_enter Try.func68, Try.ntmps68
  go_wp2
  simp [bodyPost, results, Try.results68, go_sem]
  exact ⟨_, _, rfl, ⟨none, 0, rfl, Ls.nil _⟩, ⟨none, 0, rfl, Ls.nil _⟩, ((Chg.refl _ _).alloc _).alloc _⟩
set_option maxHeartbeats 1000000 in
/-- Their ranks don't go together. -/
theorem sides_no (u v : Value) (a b : List Int) (w : World) (hU : Ls w u a) (hV : Ls w v b) (ha : a ≠ []) (hb : b ≠ []) (h1 : a.length ≠ b.length) (h2 : a.length + 1 ≠ b.length) (h3 : a.length ≠ b.length + 1) (hbl : b.length ≤ 1000000) : Calls Try.prog 68 #[u, v] w (SidesP w [] 0 [] 0 false) := by
  obtain ⟨au, cu, rfl, hcu, hmu, _⟩ := hU.form
  obtain ⟨av, cv, rfl, hcv, hmv, _⟩ := hV.form
  have hC0 := ((Chg.refl (fun _ => False) w).alloc (.cells #[.slice none 0 0, .int .i64 0] 90)).alloc (.cells #[.slice none 0 0, .int .i64 0] 90)
  have hC1 : Chg (fun _ => False) _ ((w.alloc (.cells #[.slice none 0 0, .int .i64 0] 90)).alloc (.cells #[.slice none 0 0, .int .i64 0] 90)) := (Chg.refl _ _).alloc _
  have z0 := hC1.cell (new_cell w #[.slice none 0 0, .int .i64 0] 90 (i := 0) rfl) id
  have z1 := hC1.cell (new_cell w #[.slice none 0 0, .int .i64 0] 90 (i := 1) rfl) id
  have f0 := hC1.frozen (new_cell w #[.slice none 0 0, .int .i64 0] 90 (i := 0) rfl) (new_frozen w #[.slice none 0 0, .int .i64 0] 90 0) id
  have f1 := hC1.frozen (new_cell w #[.slice none 0 0, .int .i64 0] 90 (i := 1) rfl) (new_frozen w #[.slice none 0 0, .int .i64 0] 90 1) id
  have y0 := new_cell (w.alloc (.cells #[.slice none 0 0, .int .i64 0] 90)) #[.slice none 0 0, .int .i64 0] 90 (i := 0) rfl
  have y1 := new_cell (w.alloc (.cells #[.slice none 0 0, .int .i64 0] 90)) #[.slice none 0 0, .int .i64 0] 90 (i := 1) rfl
  have e0 := new_frozen (w.alloc (.cells #[.slice none 0 0, .int .i64 0] 90)) #[.slice none 0 0, .int .i64 0] 90 0
  have e1 := new_frozen (w.alloc (.cells #[.slice none 0 0, .int .i64 0] 90)) #[.slice none 0 0, .int .i64 0] 90 1
  clear hC1
  rw [World.size_alloc] at y0 y1 e0 e1
  have HU := Lib.hid hU
  have HV := Lib.hid hV
  have HC := Lib.hid hC0
  obtain ⟨n, hn⟩ : ∃ n, a.length = n := ⟨_, rfl⟩
  obtain ⟨m, hm⟩ : ∃ m, b.length = m := ⟨_, rfl⟩
  have hp : 0 < n := by rw [← hn]; exact List.length_pos_iff.2 ha
  have hq : 0 < m := by rw [← hm]; exact List.length_pos_iff.2 hb
  rw [hm] at h1 h2 h3 hbl ⊢
  rw [hn] at h1 h2 h3 ⊢
  have b1 : ((n : Int) == 0) = false := beq_eq_false_iff_ne.2 (by omega)
  have b2 : ((m : Int) == 0) = false := beq_eq_false_iff_ne.2 (by omega)
  have b3 : ((n : Int) == (m : Int)) = false := beq_eq_false_iff_ne.2 (by omega)
  have b4 : ((n : Int) == wrap64 ((m : Int) - 1)) = false := by
    rw [mwrap (by unfold maxLen at hmv; omega)]
    exact beq_eq_false_iff_ne.2 (by omega)
  have b5 : ((n : Int) == wrap64 ((m : Int) + 1)) = false := by
    rw [mwrap (by omega)]
    exact beq_eq_false_iff_ne.2 (by omega)
  clear hm hn hp hq hC0 hU hV ha hb h1 h2 h3 hbl hcu hcv hmu hmv HU HV HC z0 z1 y0 y1 f0 f1 e0 e1
  go_enter Try.func68, Try.ntmps68
  go_wp2
  simp [bodyPost, results, Try.results68, go_sem]
  exact ⟨_, _, rfl, ⟨none, 0, rfl, Ls.nil _⟩, ⟨none, 0, rfl, Ls.nil _⟩, ((Chg.refl _ _).alloc _).alloc _⟩

set_option maxHeartbeats 1000000 in
/-- The first one has no axes. -/
theorem sides_first (u v : Value) (fb : List Int) (mb : Int) (w : World) (hU : Ls w u []) (hV : Ls w v (fb ++ [mb])) : Calls Try.prog 68 #[u, v] w (SidesP w fb 1 fb mb true) := by
  obtain ⟨au, cu, rfl, _⟩ := hU.form
  obtain ⟨av, cv, rfl, hcv, hmv, _⟩ := hV.form
  have hC0 := ((Chg.refl (fun _ => False) w).alloc (.cells #[.slice none 0 0, .int .i64 0] 90)).alloc (.cells #[.slice none 0 0, .int .i64 0] 90)
  have hC1 : Chg (fun _ => False) _ ((w.alloc (.cells #[.slice none 0 0, .int .i64 0] 90)).alloc (.cells #[.slice none 0 0, .int .i64 0] 90)) := (Chg.refl _ _).alloc _
  have z0 := hC1.cell (new_cell w #[.slice none 0 0, .int .i64 0] 90 (i := 0) rfl) id
  have z1 := hC1.cell (new_cell w #[.slice none 0 0, .int .i64 0] 90 (i := 1) rfl) id
  have f0 := hC1.frozen (new_cell w #[.slice none 0 0, .int .i64 0] 90 (i := 0) rfl) (new_frozen w #[.slice none 0 0, .int .i64 0] 90 0) id
  have f1 := hC1.frozen (new_cell w #[.slice none 0 0, .int .i64 0] 90 (i := 1) rfl) (new_frozen w #[.slice none 0 0, .int .i64 0] 90 1) id
  have y0 := new_cell (w.alloc (.cells #[.slice none 0 0, .int .i64 0] 90)) #[.slice none 0 0, .int .i64 0] 90 (i := 0) rfl
  have y1 := new_cell (w.alloc (.cells #[.slice none 0 0, .int .i64 0] 90)) #[.slice none 0 0, .int .i64 0] 90 (i := 1) rfl
  have e0 := new_frozen (w.alloc (.cells #[.slice none 0 0, .int .i64 0] 90)) #[.slice none 0 0, .int .i64 0] 90 0
  have e1 := new_frozen (w.alloc (.cells #[.slice none 0 0, .int .i64 0] 90)) #[.slice none 0 0, .int .i64 0] 90 1
  clear hC1
  rw [World.size_alloc] at y0 y1 e0 e1
  have h1 := fun w' h => slast_any _ fb mb w' ((hV.fr hC0).fr h)
  obtain ⟨ax, cx, hxl, hxr⟩ := hV.mslice fb.length (by simp)
  rw [List.take_left] at hxl
  have HXL := Lib.hid hxl
  have HV := Lib.hid hV
  have HC := Lib.hid hC0
  obtain ⟨m, hm⟩ : ∃ m, (fb ++ [mb]).length = m := ⟨_, rfl⟩
  have hm2 : m = fb.length + 1 := by rw [← hm]; simp
  rw [hm] at h1 HV hxr ⊢
  have b2 : ((m : Int) == 0) = false := beq_eq_false_iff_ne.2 (by omega)
  have hw : IntKind.i64.wrap ((m : Int) - 1) = (fb.length : Int) := by rw [show (m : Int) - 1 = (fb.length : Int) by omega]; exact IntWalk.i64_in _ (by unfold maxLen at hmv; omega)
  have H1 := Lib.hid h1
  clear hm hm2 hC0 hU hV hcv hmv hxl h1
  go_enter Try.func68, Try.ntmps68
  go_wp2
  have h1 := H1.out _ (Chg.refl _ _).drew
  go_region_with (first | (go_at_call 99; (with_reducible refine h1.mono ?_); rintro e9 w1 ⟨x1, rfl, hx1, hD1⟩; (obtain ⟨ax1, cx1, rfl, _⟩ := id (hx1 w HV.out)); (have hD2 := ((Chg.refl (fun _ => False) ((w.alloc (.cells #[.slice none 0 0, .int .i64 0] 90)).alloc (.cells #[.slice none 0 0, .int .i64 0] 90))).drew).tr hD1); (replace f0 := hD2.frozen z0 f0 id); (replace f1 := hD2.frozen z1 f1 id); (replace e0 := hD2.frozen y0 e0 id); (replace e1 := hD2.frozen y1 e1 id); (replace z0 := hD2.cell z0 id); (replace z1 := hD2.cell z1 id); (replace y0 := hD2.cell y0 id); (replace y1 := hD2.cell y1 id)))
  have HC2 := Lib.hid (HC.out.tr hD2)
  have HX1 := Lib.hid (hx1 w HV.out)
  clear hx1 hD1 hD2
  obtain ⟨⟨g0, g1⟩, g2, g3⟩ := mset4 (.slice ax fb.length cx) (.int .i64 1) (.slice ax1 fb.length cx1) (.int .i64 mb) (Nat.ne_of_lt (Nat.lt_succ_self w.heap.size)) z0 z1 y0 y1
  go_wp2
  simp [bodyPost, results, Try.results68, go_sem, g0, g1, g2, g3]
  exact ⟨_, _, rfl, ⟨_, _, rfl, HXL.out⟩, HX1.out, mchg4 HC2.out (Nat.le_refl _) (Nat.le_succ _) _ _ _ _⟩
set_option maxHeartbeats 1000000 in
/-- The second one has no axes. -/
theorem sides_second (v u : Value) (fb : List Int) (mb : Int) (w : World) (hU : Ls w u []) (hV : Ls w v (fb ++ [mb])) : Calls Try.prog 68 #[v, u] w (SidesP w fb mb fb 1 true) := by
  obtain ⟨au, cu, rfl, _⟩ := hU.form
  obtain ⟨av, cv, rfl, hcv, hmv, _⟩ := hV.form
  have hC0 := ((Chg.refl (fun _ => False) w).alloc (.cells #[.slice none 0 0, .int .i64 0] 90)).alloc (.cells #[.slice none 0 0, .int .i64 0] 90)
  have hC1 : Chg (fun _ => False) _ ((w.alloc (.cells #[.slice none 0 0, .int .i64 0] 90)).alloc (.cells #[.slice none 0 0, .int .i64 0] 90)) := (Chg.refl _ _).alloc _
  have z0 := hC1.cell (new_cell w #[.slice none 0 0, .int .i64 0] 90 (i := 0) rfl) id
  have z1 := hC1.cell (new_cell w #[.slice none 0 0, .int .i64 0] 90 (i := 1) rfl) id
  have f0 := hC1.frozen (new_cell w #[.slice none 0 0, .int .i64 0] 90 (i := 0) rfl) (new_frozen w #[.slice none 0 0, .int .i64 0] 90 0) id
  have f1 := hC1.frozen (new_cell w #[.slice none 0 0, .int .i64 0] 90 (i := 1) rfl) (new_frozen w #[.slice none 0 0, .int .i64 0] 90 1) id
  have y0 := new_cell (w.alloc (.cells #[.slice none 0 0, .int .i64 0] 90)) #[.slice none 0 0, .int .i64 0] 90 (i := 0) rfl
  have y1 := new_cell (w.alloc (.cells #[.slice none 0 0, .int .i64 0] 90)) #[.slice none 0 0, .int .i64 0] 90 (i := 1) rfl
  have e0 := new_frozen (w.alloc (.cells #[.slice none 0 0, .int .i64 0] 90)) #[.slice none 0 0, .int .i64 0] 90 0
  have e1 := new_frozen (w.alloc (.cells #[.slice none 0 0, .int .i64 0] 90)) #[.slice none 0 0, .int .i64 0] 90 1
  clear hC1
  rw [World.size_alloc] at y0 y1 e0 e1
  have h1 := fun w' h => slast_any _ fb mb w' ((hV.fr hC0).fr h)
  obtain ⟨ax, cx, hxl, hxr⟩ := hV.mslice fb.length (by simp)
  rw [List.take_left] at hxl
  have HXL := Lib.hid hxl
  have HV := Lib.hid hV
  have HC := Lib.hid hC0
  obtain ⟨m, hm⟩ : ∃ m, (fb ++ [mb]).length = m := ⟨_, rfl⟩
  have hm2 : m = fb.length + 1 := by rw [← hm]; simp
  rw [hm] at h1 HV hxr ⊢
  have b2 : ((m : Int) == 0) = false := beq_eq_false_iff_ne.2 (by omega)
  have hw : IntKind.i64.wrap ((m : Int) - 1) = (fb.length : Int) := by rw [show (m : Int) - 1 = (fb.length : Int) by omega]; exact IntWalk.i64_in _ (by unfold maxLen at hmv; omega)
  have H1 := Lib.hid h1
  clear hm hm2 hC0 hU hV hcv hmv hxl h1
  go_enter Try.func68, Try.ntmps68
  go_wp2
  have h1 := H1.out _ (Chg.refl _ _).drew
  go_region_with (first | (go_at_call 99; (with_reducible refine h1.mono ?_); rintro e9 w1 ⟨x1, rfl, hx1, hD1⟩; (obtain ⟨ax1, cx1, rfl, _⟩ := id (hx1 w HV.out)); (have hD2 := ((Chg.refl (fun _ => False) ((w.alloc (.cells #[.slice none 0 0, .int .i64 0] 90)).alloc (.cells #[.slice none 0 0, .int .i64 0] 90))).drew).tr hD1); (replace f0 := hD2.frozen z0 f0 id); (replace f1 := hD2.frozen z1 f1 id); (replace e0 := hD2.frozen y0 e0 id); (replace e1 := hD2.frozen y1 e1 id); (replace z0 := hD2.cell z0 id); (replace z1 := hD2.cell z1 id); (replace y0 := hD2.cell y0 id); (replace y1 := hD2.cell y1 id)))
  have HC2 := Lib.hid (HC.out.tr hD2)
  have HX1 := Lib.hid (hx1 w HV.out)
  clear hx1 hD1 hD2
  obtain ⟨⟨g0, g1⟩, g2, g3⟩ := mset4 (.slice ax1 fb.length cx1) (.int .i64 mb) (.slice ax fb.length cx) (.int .i64 1) (Nat.ne_of_lt (Nat.lt_succ_self w.heap.size)) z0 z1 y0 y1
  go_wp2
  simp [bodyPost, results, Try.results68, go_sem, g0, g1, g2, g3]
  exact ⟨_, _, rfl, HX1.out, ⟨_, _, rfl, HXL.out⟩, mchg4 HC2.out (Nat.le_refl _) (Nat.le_succ _) _ _ _ _⟩
end Go.Proofs.Ytceooipljhjpaaa
