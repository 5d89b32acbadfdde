/- turn: Reverse, Transpose, Rotate, Permute, walked. -/
import Derived.Test.YtmmbdhfljabefaaTrR
import Derived.Test.YtmmbdhfljabefaaTrQ
import Derived.Test.YtmmbdhfljabefaaTrN
namespace Go.Proofs.Ytmmbdhfljabefaa
open Go.RowKit Go.Shelf

theorem tab_prod {s : List Int} (h : shB s = true) (f : Nat → Int × Int) : ((tabG (cnt s) f).length : Int) = prodL s := by
  rw [tabG_length, cnt_int, cntN_ok h]
/-- A way within a shape that may be. -/
def GoodW (W : Wy) : Prop := W.n = 0 → shB W.s = true ∧ (W.g.length : Int) = prodL W.s
theorem toldW_good {s : List Int} {W : Wy} (h : shB s = true → GoodW W) : GoodW (toldW s W) := by
  unfold toldW
  cases hs : shB s with
  | true => exact h hs
  | false => exact fun h => absurd h (show ¬ (110 : Int) = 0 by decide)
theorem revW_good (s : List Int) : GoodW (revW s) := toldW_good (fun hs _ => ⟨hs, tab_prod hs _⟩)
theorem axG_good {s : List Int} {p : List Nat} (hs : shB s = true) (hp : p.Perm (List.range s.length)) (n : Int) : GoodW ⟨outL s p, axG s p, n⟩ := fun _ => ⟨(shB_perm (outL_perm hp)).trans hs, by
  show ((axG s p).length : Int) = prodL (outL s p)
  rw [prodL_perm (outL_perm hp)]
  exact tab_prod hs _⟩
theorem traW_good (s : List Int) : GoodW (toldW s (traW s)) := toldW_good (fun hs => axG_good hs (aboP_perm _) 0)
theorem rotE_sh {L : Ar} {s : List Int} (h : rotE L s = 0) : shB s = true ∧ chkB L = true := by
  unfold rotE at h
  cases h1 : shB s <;> cases h2 : chkB L <;> rw [h1, h2] at h <;> first | exact ⟨rfl, rfl⟩ | exact absurd h (show ¬ (110 : Int) = 0 by decide)
theorem rotW_good (L : Ar) (s : List Int) : GoodW (rotW L s) := by
  unfold rotW
  by_cases h : rotE L s = 0
  · rw [if_pos h]
    exact fun _ => ⟨(rotE_sh h).1, tab_prod (rotE_sh h).1 _⟩
  · rw [if_neg h]
    exact fun h2 => absurd h2 h
theorem perW_good (L : Ar) (s : List Int) : GoodW (perW L s) := by
  unfold perW
  by_cases h : perE L s = 0
  · rw [if_pos h]
    obtain ⟨h1, _, h3, h4⟩ := perE_ok h
    exact axG_good h1 (h3 ▸ (axes_perm h4).1) 0
  · rw [if_neg h]
    exact fun h2 => absurd h2 h
set_option maxHeartbeats 1000000 in
theorem trev_any (v : Value) (A : Ar) (w : World) (hA : Ara w v A) (hsl : A.s.length ≤ 1000000) (hle : A.e.length ≤ 1000000) : Calls Try.prog 27 #[v] w (GaveAE w (tgA (revW A.s) A) (tgN (revW A.s) A)) := by
  have hA' := hA
  obtain ⟨k, t, e⟩ := A
  obtain ⟨vt, ve, hv, ht, he⟩ := hA
  simp only at hv ht he hle hsl
  subst hv
  obtain ⟨ta, ct, rfl, _⟩ := ht.form
  obtain ⟨ae, ce, rfl, _⟩ := he.form
  have hC0 := ((Chg.refl (fun _ => False) w).alloc (.cells #[.int .i64 k, .slice ta t.length ct, .slice ae e.length ce] 25)).alloc (.cells #[.int .i64 0, .slice none 0 0, .slice none 0 0] 25)
  have hB0 := Bx.new (w.alloc (.cells #[.int .i64 k, .slice ta t.length ct, .slice ae e.length ce] 25)) (.int .i64 0) (.slice none 0 0) (.slice none 0 0) 25
  simp only [World.size_alloc] at hB0
  have hg := gone_any 14 #[] (enters_of Try.func14 (by kernel_rfl) rfl) (revW t) _ ⟨k, t, e⟩ _ (hA'.fr hC0) hle (fun v' w' _ h => revway_any v' t w' h hsl) (revW_good t)
  generalize tgA (revW t) ⟨k, t, e⟩ = AA at *
  generalize tgN (revW t) ⟨k, t, e⟩ = NN at *
  clear ht he hA'
  go_enter Try.func27, Try.ntmps27
  go_wp2_with fail
  refine hg.mono ?_
  clear hg
  rintro e9 w4 ⟨v4, rfl, ho4, hC4⟩
  obtain ⟨a5, c5, a6, c6, hv4, q1, q2⟩ := ara_new ho4
  subst hv4
  have hb4 := hB0.lt
  obtain ⟨z0, z1, z2, x0, x1, x2⟩ := hB0.fr hC4
  obtain ⟨⟨g0, g1⟩, g2⟩ := set3_cells (.int .i64 AA.k) (.slice a5 AA.s.length c5) (.slice a6 AA.e.length c6) z0 z1 z2
  have HC4 := Lib.hid (hC0.tr hC4)
  have HB4 := Lib.hid hb4
  clear hC4 ho4 hB0 hC0 hb4
  go_wp2
  simp [bodyPost, results, Try.results27, go_sem, g0, g1, g2]
  show GaveAE w ⟨AA.k, AA.s, AA.e⟩ NN _ _
  exact leaveAE q1 q2 (by omega) HB4.out HB4.out HC4.out
set_option maxHeartbeats 1000000 in
theorem ttra_any (v : Value) (A : Ar) (w : World) (hA : Ara w v A) (hsl : A.s.length ≤ 1000000) (hle : A.e.length ≤ 1000000) : Calls Try.prog 28 #[v] w (GaveAE w (tgA (toldW A.s (traW A.s)) A) (tgN (toldW A.s (traW A.s)) A)) := by
  have hA' := hA
  obtain ⟨k, t, e⟩ := A
  obtain ⟨vt, ve, hv, ht, he⟩ := hA
  simp only at hv ht he hle hsl
  subst hv
  obtain ⟨ta, ct, rfl, _⟩ := ht.form
  obtain ⟨ae, ce, rfl, _⟩ := he.form
  have hC0 := ((Chg.refl (fun _ => False) w).alloc (.cells #[.int .i64 k, .slice ta t.length ct, .slice ae e.length ce] 25)).alloc (.cells #[.int .i64 0, .slice none 0 0, .slice none 0 0] 25)
  have hB0 := Bx.new (w.alloc (.cells #[.int .i64 k, .slice ta t.length ct, .slice ae e.length ce] 25)) (.int .i64 0) (.slice none 0 0) (.slice none 0 0) 25
  simp only [World.size_alloc] at hB0
  have hg := gone_any 15 #[] (enters_of Try.func15 (by kernel_rfl) rfl) (toldW t (traW t)) _ ⟨k, t, e⟩ _ (hA'.fr hC0) hle (fun v' w' _ h => traway_any v' t w' h hsl) (traW_good t)
  generalize tgA (toldW t (traW t)) ⟨k, t, e⟩ = AA at *
  generalize tgN (toldW t (traW t)) ⟨k, t, e⟩ = NN at *
  clear ht he hA'
  go_enter Try.func28, Try.ntmps28
  go_wp2_with fail
  refine hg.mono ?_
  clear hg
  rintro e9 w4 ⟨v4, rfl, ho4, hC4⟩
  obtain ⟨a5, c5, a6, c6, hv4, q1, q2⟩ := ara_new ho4
  subst hv4
  have hb4 := hB0.lt
  obtain ⟨z0, z1, z2, x0, x1, x2⟩ := hB0.fr hC4
  obtain ⟨⟨g0, g1⟩, g2⟩ := set3_cells (.int .i64 AA.k) (.slice a5 AA.s.length c5) (.slice a6 AA.e.length c6) z0 z1 z2
  have HC4 := Lib.hid (hC0.tr hC4)
  have HB4 := Lib.hid hb4
  clear hC4 ho4 hB0 hC0 hb4
  go_wp2
  simp [bodyPost, results, Try.results28, go_sem, g0, g1, g2]
  show GaveAE w ⟨AA.k, AA.s, AA.e⟩ NN _ _
  exact leaveAE q1 q2 (by omega) HB4.out HB4.out HC4.out
set_option maxHeartbeats 1000000 in
theorem trot_any (u v : Value) (L A : Ar) (w : World) (hL : Ara w u L) (hA : Ara w v A) (hlsl : L.s.length ≤ 1000000) (hlle : L.e.length ≤ 1000000) (hsl : A.s.length ≤ 1000000) (hle : A.e.length ≤ 1000000) : Calls Try.prog 30 #[u, v] w (GaveAE w (tgA (rotW L A.s) A) (tgN (rotW L A.s) A)) := by
  have hA' := hA
  have hL' := hL
  obtain ⟨k, t, e⟩ := A
  obtain ⟨vt, ve, hv, ht, he⟩ := hA
  obtain ⟨j, p, f⟩ := L
  obtain ⟨vp, vf, hu, hp, hf⟩ := hL
  simp only at hv ht he hle hsl hlsl hlle hu hp hf
  subst hv hu
  obtain ⟨ta, ct, rfl, _⟩ := ht.form
  obtain ⟨ae, ce, rfl, _⟩ := he.form
  obtain ⟨pa, cp, rfl, _⟩ := hp.form
  obtain ⟨fa, cf, rfl, _⟩ := hf.form
  have hC0 := (((Chg.refl (fun _ => False) w).alloc (.cells #[.int .i64 j, .slice pa p.length cp, .slice fa f.length cf] 25)).alloc (.cells #[.int .i64 k, .slice ta t.length ct, .slice ae e.length ce] 25)).alloc (.cells #[.int .i64 0, .slice none 0 0, .slice none 0 0] 25)
  have hB0 := Bx.new ((w.alloc (.cells #[.int .i64 j, .slice pa p.length cp, .slice fa f.length cf] 25)).alloc (.cells #[.int .i64 k, .slice ta t.length ct, .slice ae e.length ce] 25)) (.int .i64 0) (.slice none 0 0) (.slice none 0 0) 25
  simp only [World.size_alloc] at hB0
  have hg := gone_any 72 #[.agg #[.int .i64 j, .slice pa p.length cp, .slice fa f.length cf]] (enters_of Try.func72 (by kernel_rfl) rfl) (rotW ⟨j, p, f⟩ t) _ ⟨k, t, e⟩ _ (hA'.fr hC0) hle (fun v' w' hC h => lrot_any _ v' ⟨j, p, f⟩ t w' ((hL'.fr hC0).fr hC) h hsl hlle hlsl) (rotW_good _ t)
  generalize tgA (rotW ⟨j, p, f⟩ t) ⟨k, t, e⟩ = AA at *
  generalize tgN (rotW ⟨j, p, f⟩ t) ⟨k, t, e⟩ = NN at *
  clear ht he hA' hp hf hL'
  go_enter Try.func30, Try.ntmps30
  go_wp2_with fail
  refine hg.mono ?_
  clear hg
  rintro e9 w4 ⟨v4, rfl, ho4, hC4⟩
  obtain ⟨a5, c5, a6, c6, hv4, q1, q2⟩ := ara_new ho4
  subst hv4
  have hb4 := hB0.lt
  obtain ⟨z0, z1, z2, x0, x1, x2⟩ := hB0.fr hC4
  obtain ⟨⟨g0, g1⟩, g2⟩ := set3_cells (.int .i64 AA.k) (.slice a5 AA.s.length c5) (.slice a6 AA.e.length c6) z0 z1 z2
  have HC4 := Lib.hid (hC0.tr hC4)
  have HB4 := Lib.hid hb4
  clear hC4 ho4 hB0 hC0 hb4
  go_wp2
  simp [bodyPost, results, Try.results30, go_sem, g0, g1, g2]
  show GaveAE w ⟨AA.k, AA.s, AA.e⟩ NN _ _
  exact leaveAE q1 q2 (by omega) HB4.out HB4.out HC4.out
set_option maxHeartbeats 1000000 in
theorem tper_any (u v : Value) (L A : Ar) (w : World) (hL : Ara w u L) (hA : Ara w v A) (hlsl : L.s.length ≤ 1000000) (hlle : L.e.length ≤ 1000000) (hsl : A.s.length ≤ 1000000) (hle : A.e.length ≤ 1000000) : Calls Try.prog 37 #[u, v] w (GaveAE w (tgA (perW L A.s) A) (tgN (perW L A.s) A)) := by
  have hA' := hA
  have hL' := hL
  obtain ⟨k, t, e⟩ := A
  obtain ⟨vt, ve, hv, ht, he⟩ := hA
  obtain ⟨j, p, f⟩ := L
  obtain ⟨vp, vf, hu, hp, hf⟩ := hL
  simp only at hv ht he hle hsl hlsl hlle hu hp hf
  subst hv hu
  obtain ⟨ta, ct, rfl, _⟩ := ht.form
  obtain ⟨ae, ce, rfl, _⟩ := he.form
  obtain ⟨pa, cp, rfl, _⟩ := hp.form
  obtain ⟨fa, cf, rfl, _⟩ := hf.form
  have hC0 := (((Chg.refl (fun _ => False) w).alloc (.cells #[.int .i64 j, .slice pa p.length cp, .slice fa f.length cf] 25)).alloc (.cells #[.int .i64 k, .slice ta t.length ct, .slice ae e.length ce] 25)).alloc (.cells #[.int .i64 0, .slice none 0 0, .slice none 0 0] 25)
  have hB0 := Bx.new ((w.alloc (.cells #[.int .i64 j, .slice pa p.length cp, .slice fa f.length cf] 25)).alloc (.cells #[.int .i64 k, .slice ta t.length ct, .slice ae e.length ce] 25)) (.int .i64 0) (.slice none 0 0) (.slice none 0 0) 25
  simp only [World.size_alloc] at hB0
  have hg := gone_any 75 #[.agg #[.int .i64 j, .slice pa p.length cp, .slice fa f.length cf]] (enters_of Try.func75 (by kernel_rfl) rfl) (perW ⟨j, p, f⟩ t) _ ⟨k, t, e⟩ _ (hA'.fr hC0) hle (fun v' w' hC h => lperm_any _ v' ⟨j, p, f⟩ t w' ((hL'.fr hC0).fr hC) h hsl hlle) (perW_good _ t)
  generalize tgA (perW ⟨j, p, f⟩ t) ⟨k, t, e⟩ = AA at *
  generalize tgN (perW ⟨j, p, f⟩ t) ⟨k, t, e⟩ = NN at *
  clear ht he hA' hp hf hL'
  go_enter Try.func37, Try.ntmps37
  go_wp2_with fail
  refine hg.mono ?_
  clear hg
  rintro e9 w4 ⟨v4, rfl, ho4, hC4⟩
  obtain ⟨a5, c5, a6, c6, hv4, q1, q2⟩ := ara_new ho4
  subst hv4
  have hb4 := hB0.lt
  obtain ⟨z0, z1, z2, x0, x1, x2⟩ := hB0.fr hC4
  obtain ⟨⟨g0, g1⟩, g2⟩ := set3_cells (.int .i64 AA.k) (.slice a5 AA.s.length c5) (.slice a6 AA.e.length c6) z0 z1 z2
  have HC4 := Lib.hid (hC0.tr hC4)
  have HB4 := Lib.hid hb4
  clear hC4 ho4 hB0 hC0 hb4
  go_wp2
  simp [bodyPost, results, Try.results37, go_sem, g0, g1, g2]
  show GaveAE w ⟨AA.k, AA.s, AA.e⟩ NN _ _
  exact leaveAE q1 q2 (by omega) HB4.out HB4.out HC4.out
end Go.Proofs.Ytmmbdhfljabefaa
