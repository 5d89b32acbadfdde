/- fold: the outer product's shape. -/
import Derived.Test.YtjmlekdgipinfaaMt43
import Derived.Test.YtjmlekdgipinfaaMt39
import Derived.Test.YtjmlekdgipinfaaMt28
namespace Go.Proofs.Ytjmlekdgipinfaa
open Go.RowKit Go.Shelf

def ouE (f : Int) (A B : Ar) : Int := if ckE [f] A B = 0 then (if knE f A.k B.k = 0 then (if shB (A.s ++ B.s) then 0 else 9) else knE f A.k B.k) else ckE [f] A B
def GaveOS (w : World) (s : List Int) (E : Int) (e : Ending) (w' : World) : Prop := ∃ v, e = .returned (.tuple #[v, .int .i64 E]) ∧ Chg (fun _ => False) w w' ∧ (E = 0 → Own w' w.heap.size 3 v s) ∧ (E ≠ 0 → v = .slice none 0 0)
theorem ck_zero {l : List Int} {A B : Ar} (h : ckE l A B = 0) : chkB A = true ∧ chkB B = true := by
  unfold ckE at h
  split at h
  · cases h
  · split at h
    · rename_i h2
      simpa using h2
    · cases h
set_option maxRecDepth 100000 in
set_option maxHeartbeats 2000000 in
theorem outerS_any (f : Int) (u v : Value) (A B : Ar) (w : World) (hA : Ara w u A) (hB : Ara w v B) (hl1 : A.e.length ≤ 1000000) (hl2 : B.e.length ≤ 1000000) : Calls Try.prog 14 #[.int .i64 f, u, v] w (GaveOS w (A.s ++ B.s) (ouE f A B)) := by
  have hck := fun vl w' (h : Chg (fun _ => False) w w') (hL : Ls w' vl [f]) => fchecked_any u v vl A B [f] w' (hA.fr h) (hB.fr h) hL hl1 hl2 (by simp)
  obtain ⟨vs, ve, rfl, hs, he⟩ := hA
  obtain ⟨us, ue, rfl, ht, hf⟩ := hB
  have HSH := Lib.hid (And.intro hs ht)
  obtain ⟨sa, cs, rfl, _⟩ := hs.form
  obtain ⟨ea, ce, rfl, _⟩ := he.form
  obtain ⟨ta, ct, rfl, _⟩ := ht.form
  obtain ⟨fa, cf, rfl, _⟩ := hf.form
  obtain ⟨y0, y1, y2⟩ := cell_two w (.int .i64 A.k) (.slice sa A.s.length cs) (.slice ea A.e.length ce) 25
  obtain ⟨z0, z1, z2⟩ := cell_two (w.alloc (.cells #[.int .i64 A.k, .slice sa A.s.length cs, .slice ea A.e.length ce] 25)) (.int .i64 B.k) (.slice ta B.s.length ct) (.slice fa B.e.length cf) 25
  have hK := (Chg.refl (fun _ => False) (w.alloc (.cells #[.int .i64 A.k, .slice sa A.s.length cs, .slice ea A.e.length ce] 25))).alloc (.cells #[.int .i64 B.k, .slice ta B.s.length ct, .slice fa B.e.length cf] 25)
  replace y0 := hK.cell y0 id
  replace y1 := hK.cell y1 id
  replace y2 := hK.cell y2 id
  rw [World.size_alloc] at z0 z1 z2
  have hC0 := ((Chg.refl (fun _ => False) w).alloc (.cells #[.int .i64 A.k, .slice sa A.s.length cs, .slice ea A.e.length ce] 25)).tr hK
  have hsl := own_lit ((w.alloc (.cells #[.int .i64 A.k, .slice sa A.s.length cs, .slice ea A.e.length ce] 25)).alloc (.cells #[.int .i64 B.k, .slice ta B.s.length ct, .slice fa B.e.length cf] 25)) 3 [f] 1 rfl #[.int .i64 f] rfl (by simp)
  have hC1 := (Chg.refl (fun _ => False) ((w.alloc (.cells #[.int .i64 A.k, .slice sa A.s.length cs, .slice ea A.e.length ce] 25)).alloc (.cells #[.int .i64 B.k, .slice ta B.s.length ct, .slice fa B.e.length cf] 25))).alloc (.cells #[.int .i64 f] 3)
  have h1 := hck _ _ (hC0.tr hC1) hsl.ls
  rw [World.size_alloc, World.size_alloc] at h1
  have HC := Lib.hid hC0
  have hk := kinds_any f A.k B.k
  unfold SaidI at hk
  have HX := Lib.hid (show ckE [f] A B = 0 → A.s.length + B.s.length ≤ 1000000 from fun h => by
    have h2 := ck_zero h
    have q1 := (shB_iff.1 (chkB_iff.1 h2.1).1).1
    have q2 := (shB_iff.1 (chkB_iff.1 h2.2).1).1
    omega)
  clear hs he ht hf hK hC0 hck hl1 hl2 hsl
  unfold GaveI at h1
  obtain ⟨ck, hck⟩ : ∃ c, ckE [f] A B = c := ⟨_, rfl⟩
  obtain ⟨kn, hkn⟩ : ∃ kn, knE f A.k B.k = kn := ⟨_, rfl⟩
  obtain ⟨E, hE⟩ : ∃ E, ouE f A B = E := ⟨_, rfl⟩
  have HE := Lib.hid (show (ck ≠ 0 → E = ck) ∧ (ck = 0 → kn ≠ 0 → E = kn) ∧ (ck = 0 → kn = 0 → shB (A.s ++ B.s) = true → E = 0) ∧ (ck = 0 → kn = 0 → shB (A.s ++ B.s) = false → E = 9) from by
    rw [← hE]
    unfold ouE
    rw [hck, hkn]
    refine ⟨fun h => if_neg h, fun h h2 => by rw [if_pos h, if_neg h2], fun h h2 h3 => by rw [if_pos h, if_pos h2, h3]; rfl, fun h h2 h3 => by rw [if_pos h, if_pos h2, h3]; rfl⟩)
  rw [hck] at h1 HX
  simp only [hkn] at hk
  rw [hE]
  clear hkn hck hE
  go_enter Try.func14, Try.ntmps14
  go_wp2_with fail
  refine h1.mono ?_
  clear h1
  rintro e9 w1 ⟨rfl, hC2⟩
  replace HC := Lib.hid (HC.out.tr (hC1.tr hC2))
  replace y0 := (hC1.tr hC2).cell y0 id
  replace y1 := (hC1.tr hC2).cell y1 id
  replace y2 := (hC1.tr hC2).cell y2 id
  replace z0 := (hC1.tr hC2).cell z0 id
  replace z1 := (hC1.tr hC2).cell z1 id
  replace z2 := (hC1.tr hC2).cell z2 id
  clear hC1 hC2
  by_cases h0 : ck = 0
  · subst h0
    have HE2 := Lib.hid (show (kn ≠ 0 → E = kn) ∧ (kn = 0 → shB (A.s ++ B.s) = true → E = 0) ∧ (kn = 0 → shB (A.s ++ B.s) = false → E = 9) from ⟨HE.out.2.1 rfl, HE.out.2.2.1 rfl, HE.out.2.2.2 rfl⟩)
    clear HE
    have hlm := limited_any _ _ A.s B.s w1 (HSH.out.1.fr HC.out) (HSH.out.2.fr HC.out) (HX.out rfl)
    go_wp2_with fail
    refine (hk _).mono ?_
    clear hk
    rintro e9 w2 ⟨rfl, rfl⟩
    by_cases h2 : kn = 0
    · subst h2
      have HE3 := Lib.hid (show (shB (A.s ++ B.s) = true → E = 0) ∧ (shB (A.s ++ B.s) = false → E = 9) from ⟨HE2.out.2.1 (by first | rfl | trivial), HE2.out.2.2 (by first | rfl | trivial)⟩)
      clear HE2
      go_wp2_with fail
      refine hlm.mono ?_
      clear hlm
      rintro e9 w3 ⟨hC3, x, n, rfl, hv⟩
      have HS := Lib.hid HC.out.size
      replace HC := Lib.hid (HC.out.tr hC3)
      have HV := Lib.hid hv
      clear hv hC3
      go_wp2
      go_ret2
      rcases HV.out with ⟨hs, rfl, ho⟩ | ⟨hs, rfl, rfl⟩
      · obtain rfl := HE3.out.1 hs
        exact ⟨_, rfl, HC.out, fun _ => ho.mono HS.out, fun h => absurd rfl h⟩
      · obtain rfl := HE3.out.2 hs
        exact ⟨_, rfl, HC.out, fun h => absurd h (by decide), fun _ => rfl⟩
    · have e2 : (kn != 0) = true := bne_iff_ne.2 h2
      have H2 := Lib.hid h2
      obtain rfl := HE2.out.1 h2
      clear h2 hlm
      go_wp2
      go_ret2
      exact ⟨_, rfl, HC.out, fun h => absurd h H2.out, fun _ => rfl⟩
  · have e2 : (ck != 0) = true := bne_iff_ne.2 h0
    have H2 := Lib.hid h0
    obtain rfl := HE.out.1 h0
    clear h0
    go_wp2
    go_ret2
    exact ⟨_, rfl, HC.out, fun h => absurd h H2.out, fun _ => rfl⟩
end Go.Proofs.Ytjmlekdgipinfaa
/- fold: the outer product. -/
namespace Go.Proofs.Ytjmlekdgipinfaa
open Go.RowKit Go.Shelf

/-- Which two stand behind a place of an outer product. -/
def ouP (p : Int → Int → Int × Int) (xs ys : List Int) (i : Nat) : Int × Int := p (xs.getD (i / ys.length) 0) (ys.getD (i % ys.length) 0)
set_option maxRecDepth 100000 in
set_option maxHeartbeats 2000000 in
theorem outer1_any (p : Int → Int → Int × Int) (vf va vb : Value) (xs ys : List Int) (b10 ba b12 bb i : Nat) (w : World) (hF : Fn2 w vf p) (hX : Ls w va xs) (hY : Ls w vb ys)
    (c10 : w.cell? ⟨b10, 0, none⟩ = some vf) (ca : w.cell? ⟨ba, 2, none⟩ = some va) (c12 : w.cell? ⟨b12, 0, none⟩ = some (.int .i64 ys.length)) (cb : w.cell? ⟨bb, 2, none⟩ = some vb)
    (hi : i < xs.length * ys.length) (hxl : xs.length ≤ 1000000) (hyl : ys.length ≤ 1000000) (hxI : ∀ x ∈ xs, In x) (hyI : ∀ x ∈ ys, In x) :
    Calls Try.prog 46 #[.int .i64 i, .pointer (some ⟨b10, 0, none⟩), .pointer (some ⟨ba, 0, none⟩), .pointer (some ⟨b12, 0, none⟩), .pointer (some ⟨bb, 0, none⟩)] w (GaveP w (ouP p xs ys i).1 (ouP p xs ys i).2) := by
  obtain ⟨gf, lb, rfl, egf, hcf⟩ := hF
  have hN : 0 < ys.length := by
    rcases Nat.eq_zero_or_pos ys.length with h | h
    · rw [h, Nat.mul_zero] at hi; omega
    · exact h
  obtain ⟨q, hq⟩ : ∃ q, i / ys.length = q := ⟨_, rfl⟩
  obtain ⟨r, hr⟩ : ∃ r, i % ys.length = r := ⟨_, rfl⟩
  have hql : q < xs.length := by rw [← hq]; exact (Nat.div_lt_iff_lt_mul hN).2 hi
  have hrl : r < ys.length := by rw [← hr]; exact Nat.mod_lt _ hN
  obtain ⟨xa, oa, cxa, rfl, hx⟩ := hX.at hql
  obtain ⟨xb, ob, cxb, rfl, hy⟩ := hY.at hrl
  have hIx := hxI _ (List.getElem_mem hql)
  have hIy := hyI _ (List.getElem_mem hrl)
  have hou : ouP p xs ys i = p xs[q] ys[r] := by
    unfold ouP
    rw [hq, hr]
    simp [hql, hrl]
  rw [hou]
  generalize xs[q] = x at *
  generalize ys[r] = y at *
  have hcc := hcf x y hIx hIy w.drew (Chg.refl _ _).drew
  generalize p x y = res at *
  unfold GaveP at hcc
  have hib : i < 1000000 * 1000000 := Nat.lt_of_lt_of_le hi (Nat.mul_le_mul hxl hyl)
  have d1 : Int.tdiv (i : Int) (ys.length : Int) = (q : Int) := by rw [Int.tdiv_eq_ediv_of_nonneg (by omega), ← hq]; exact (Int.natCast_ediv _ _).symm
  have d2 : Int.tmod (i : Int) (ys.length : Int) = (r : Int) := by rw [Int.tmod_eq_emod_of_nonneg (by omega), ← hr]; exact (Int.natCast_emod _ _).symm
  have k1 : IntKind.i64.wrap (q : Int) = (q : Int) := IntWalk.i64_in _ (by clear d1 d2; omega)
  have k2 : IntKind.i64.wrap (r : Int) = (r : Int) := IntWalk.i64_in _ (by clear d1 d2; omega)
  have n1 : ¬ (ys.length : Int) = 0 := by clear d1 d2; omega
  have n2 : ¬ ys.length = 0 := by clear d1 d2; omega
  have n3 : ¬ ys = [] := by intro e; rw [e] at n2; exact n2 rfl
  have q0 : (0 : Int) ≤ (q : Int) := by clear d1 d2; omega
  have q1 : (q : Int) < (xs.length : Int) := by clear d1 d2; omega
  have r0 : (0 : Int) ≤ (r : Int) := by clear d1 d2; omega
  have r1 : (r : Int) < (ys.length : Int) := by clear d1 d2; omega
  have KP := Lib.hid (show ∀ w', Chg (fun _ => False) w w' → (Chg (fun _ => False) w w' ∧ w'.cell? ⟨b10, 0, none⟩ = some (.func (.func gf) #[] lb) ∧ w'.cell? ⟨ba, 2, none⟩ = some (.slice (some ⟨xa, oa, none⟩) xs.length cxa) ∧ w'.cell? ⟨b12, 0, none⟩ = some (.int .i64 ys.length) ∧ w'.cell? ⟨bb, 2, none⟩ = some (.slice (some ⟨xb, ob, none⟩) ys.length cxb) ∧ w'.cell? ⟨xa, oa + q, none⟩ = some (.int .i64 x) ∧ w'.cell? ⟨xb, ob + r, none⟩ = some (.int .i64 y)) from fun w' h => ⟨h, h.cell c10 id, h.cell ca id, h.cell c12 id, h.cell cb id, h.cell hx id, h.cell hy id⟩)
  clear hou hIx hIy hcf hxI hyI hN hq hr hql hrl hi hib hxl hyl hX hY
  go_enter Try.func46, Try.ntmps46
  go_wp2
  go_region_held3 (fun w' => (Chg (fun _ => False) w w' ∧ w'.cell? ⟨b10, 0, none⟩ = some (.func (.func gf) #[] lb) ∧ w'.cell? ⟨ba, 2, none⟩ = some (.slice (some ⟨xa, oa, none⟩) xs.length cxa) ∧ w'.cell? ⟨b12, 0, none⟩ = some (.int .i64 ys.length) ∧ w'.cell? ⟨bb, 2, none⟩ = some (.slice (some ⟨xb, ob, none⟩) ys.length cxb) ∧ w'.cell? ⟨xa, oa + q, none⟩ = some (.int .i64 x) ∧ w'.cell? ⟨xb, ob + r, none⟩ = some (.int .i64 y))) ((refine KP.out _ ?_; repeat (first | (with_reducible exact Chg.refl _ _) | (with_reducible refine chg_drew' ?_) | (with_reducible refine Chg.tr ?_ hCP)))) (first | ((with_reducible refine hcc.mono ?_); rintro e9 wP ⟨rfl, hCP⟩))
  all_goals
    rename_i hHd
    have HF := Lib.hid hHd.1
    clear hHd hcc
    go_wp2
    go_ret2
    exact ⟨rfl, HF.out⟩
end Go.Proofs.Ytjmlekdgipinfaa
