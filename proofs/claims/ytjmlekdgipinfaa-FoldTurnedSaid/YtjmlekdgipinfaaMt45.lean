/- fold: the outer product, whole. -/
import Derived.Test.YtjmlekdgipinfaaMt44
namespace Go.Proofs.Ytjmlekdgipinfaa
open Go.RowKit Go.Shelf

def outE (f : Int) (A B : Ar) : Int := if ouE f A B = 0 then mdE (A.e.length * B.e.length) (ouP (mixP f A.k B.k) A.e B.e) else ouE f A B
def outA (f : Int) (A B : Ar) : Ar := if outE f A B = 0 then ⟨1, A.s ++ B.s, tabV (A.e.length * B.e.length) (ouP (mixP f A.k B.k) A.e B.e)⟩ else noA
theorem ou_zero {f : Int} {A B : Ar} (h : ouE f A B = 0) : ckE [f] A B = 0 ∧ knE f A.k B.k = 0 ∧ shB (A.s ++ B.s) = true := by
  unfold ouE at h
  by_cases h1 : ckE [f] A B = 0
  · rw [if_pos h1] at h
    by_cases h2 : knE f A.k B.k = 0
    · rw [if_pos h2] at h
      by_cases h3 : shB (A.s ++ B.s) = true
      · exact ⟨h1, h2, h3⟩
      · rw [if_neg h3] at h; cases h
    · rw [if_neg h2] at h; exact absurd h h2
  · rw [if_neg h1] at h; exact absurd h h1
theorem enters_outer1 : ∀ args w, (callFunc 46 args).run Try.prog w = .ok (.enter 46 args) w := enters_of Try.func46 (by kernel_rfl) rfl
set_option maxRecDepth 100000 in
set_option maxHeartbeats 2000000 in
theorem outer_any (f : Int) (u v : Value) (A B : Ar) (w : World) (hA : Ara w u A) (hBB : Ara w v B) (hl1 : A.e.length ≤ 1000000) (hl2 : B.e.length ≤ 1000000) (hI1 : ∀ x ∈ A.e, In x) (hI2 : ∀ x ∈ B.e, In x) : Calls Try.prog 13 #[.int .i64 f, u, v] w (GaveAE w (outA f A B) (outE f A B)) := by
  have hos := fun w' (h : Chg (fun _ => False) w w') => outerS_any f u v A B w' (hA.fr h) (hBB.fr h) hl1 hl2
  obtain ⟨vs, ve, rfl, hs, he⟩ := hA
  obtain ⟨us, ue, rfl, ht, hf⟩ := hBB
  have HEL := Lib.hid (And.intro he hf)
  obtain ⟨sa, cs, rfl, _⟩ := hs.form
  obtain ⟨ea, ce, rfl, _⟩ := he.form
  obtain ⟨ta, ct, rfl, _⟩ := ht.form
  obtain ⟨fa, cf, rfl, _⟩ := hf.form
  obtain ⟨y0, y1, y2⟩ := cell_two w (.int .i64 A.k) (.slice sa A.s.length cs) (.slice ea A.e.length ce) 25
  obtain ⟨z0, z1, z2⟩ := cell_two (w.alloc (.cells #[.int .i64 A.k, .slice sa A.s.length cs, .slice ea A.e.length ce] 25)) (.int .i64 B.k) (.slice ta B.s.length ct) (.slice fa B.e.length cf) 25
  have hK1 := (Chg.refl (fun _ => False) (w.alloc (.cells #[.int .i64 A.k, .slice sa A.s.length cs, .slice ea A.e.length ce] 25))).alloc (.cells #[.int .i64 B.k, .slice ta B.s.length ct, .slice fa B.e.length cf] 25)
  have hK2 := (Chg.refl (fun _ => False) ((w.alloc (.cells #[.int .i64 A.k, .slice sa A.s.length cs, .slice ea A.e.length ce] 25)).alloc (.cells #[.int .i64 B.k, .slice ta B.s.length ct, .slice fa B.e.length cf] 25))).alloc (.cells #[.int .i64 0, .slice none 0 0, .slice none 0 0] 25)
  have hB := Bx.new ((w.alloc (.cells #[.int .i64 A.k, .slice sa A.s.length cs, .slice ea A.e.length ce] 25)).alloc (.cells #[.int .i64 B.k, .slice ta B.s.length ct, .slice fa B.e.length cf] 25)) (.int .i64 0) (.slice none 0 0) (.slice none 0 0) 25
  rw [World.size_alloc, World.size_alloc] at hB
  replace y0 := hK2.cell (hK1.cell y0 id) id
  replace y1 := hK2.cell (hK1.cell y1 id) id
  replace y2 := hK2.cell (hK1.cell y2 id) id
  replace z0 := hK2.cell z0 id
  replace z1 := hK2.cell z1 id
  replace z2 := hK2.cell z2 id
  rw [World.size_alloc] at z0 z1 z2
  have hC0 := (((Chg.refl (fun _ => False) w).alloc (.cells #[.int .i64 A.k, .slice sa A.s.length cs, .slice ea A.e.length ce] 25)).tr hK1).tr hK2
  have h1 := hos _ hC0
  have HC := Lib.hid hC0
  obtain ⟨E, hE⟩ : ∃ E, ouE f A B = E := ⟨_, rfl⟩
  rw [hE] at h1
  have HE := Lib.hid hE
  have HIN := Lib.hid (And.intro hI1 hI2)
  clear hs he ht hf hK1 hK2 hC0 hos hE hI1 hI2
  by_cases hz : E = 0
  · subst hz
    obtain ⟨hk1, hk2, hk3⟩ := ou_zero HE.out
    have hch := ck_zero hk1
    have hpr : prodL (A.s ++ B.s) = ((A.e.length * B.e.length : Nat) : Int) := by rw [prodL_append, (chkB_iff.1 hch.1).2.1, (chkB_iff.1 hch.2).2.1]; exact (Int.natCast_mul _ _).symm
    obtain ⟨sh, hsh⟩ : ∃ sh, A.s ++ B.s = sh := ⟨_, rfl⟩
    rw [hsh] at hk3 hpr h1
    have HQ := Lib.hid (And.intro hk3 hpr)
    have HSH := Lib.hid hsh
    have HRE := Lib.hid (show outE f A B = mdE (A.e.length * B.e.length) (ouP (mixP f A.k B.k) A.e B.e) from by unfold outE; rw [if_pos HE.out])
    have hmx := mixed_any f A.k B.k
    rw [hk2] at hmx
    clear hk1 hk2 hk3 hch hpr HE hsh
    go_enter Try.func13, Try.ntmps13
    go_wp2_with fail
    refine h1.mono ?_
    clear h1
    rintro e9 w1 ⟨vh, rfl, hC1, ho, _⟩
    have ho2 := ho (by first | rfl | trivial)
    obtain ⟨ah, ch, rfl⟩ := own_name ho2
    have HS0 := Lib.hid (show w.heap.size + 1 + 1 + 1 ≤ _ from hB.lt)
    replace HC := Lib.hid (HC.out.tr hC1)
    replace y0 := hC1.cell y0 id
    replace y1 := hC1.cell y1 id
    replace y2 := hC1.cell y2 id
    replace z0 := hC1.cell z0 id
    replace z1 := hC1.cell z1 id
    replace z2 := hC1.cell z2 id
    replace hB := hB.fr hC1
    have HO := Lib.hid (ho2.mono HS0.out)
    have HOW := Lib.hid hC1
    clear ho ho2 hC1
    go_wp2_with fail
    refine (hmx _).mono ?_
    clear hmx
    rintro e9 w2 ⟨vf, rfl, hf0, _, hC2⟩
    obtain ⟨gf, lb, rfl, egf, hcf⟩ := hf0 (by first | rfl | trivial)
    have HFN := Lib.hid (show Fn2 w2 (.func (.func gf) #[] lb) (mixP f A.k B.k) from ⟨gf, lb, rfl, egf, hcf⟩)
    replace HC := Lib.hid (HC.out.tr hC2)
    replace y0 := hC2.cell y0 id
    replace y1 := hC2.cell y1 id
    replace y2 := hC2.cell y2 id
    replace z0 := hC2.cell z0 id
    replace z1 := hC2.cell z1 id
    replace z2 := hC2.cell z2 id
    replace hB := hB.fr hC2
    replace HO := Lib.hid (HO.out.fr hC2)
    clear hf0 egf hcf hC2
    have hK3 := (Chg.refl (fun _ => False) w2).alloc (.cells #[.func (.func gf) #[] lb] 33)
    have hK4 := (Chg.refl (fun _ => False) (w2.alloc (.cells #[.func (.func gf) #[] lb] 33))).alloc (.cells #[.int .i64 B.e.length] 3)
    have x10 := hK4.cell (new_cell w2 #[.func (.func gf) #[] lb] 33 (i := 0) (v := .func (.func gf) #[] lb) rfl) id
    have x12 := new_cell (w2.alloc (.cells #[.func (.func gf) #[] lb] 33)) #[.int .i64 B.e.length] 3 (i := 0) (v := .int .i64 B.e.length) rfl
    rw [World.size_alloc] at x12
    have z2a := hK3.cell z2 id
    have HK := Lib.hid (hK3.tr hK4)
    have xa := HK.out.cell y2 id
    have xb := HK.out.cell z2 id
    have HB5 := Lib.hid (hB.fr HK.out)
    have HO5 := Lib.hid (HO.out.fr HK.out)
    have HC5 := Lib.hid (HC.out.tr HK.out)
    have HF5 := Lib.hid (HFN.out.fr HK.out)
    have hmd := made_any _ sh (A.e.length * B.e.length) 46 #[] #[.pointer (some ⟨w2.heap.size, 0, none⟩), .pointer (some ⟨w.heap.size, 0, none⟩), .pointer (some ⟨w2.heap.size + 1, 0, none⟩), .pointer (some ⟨w.heap.size + 1, 0, none⟩)] (ouP (mixP f A.k B.k) A.e B.e) _ HO5.out.ls HQ.out.1 HQ.out.2 ⟨enters_outer1, fun i hi w' h => outer1_any (mixP f A.k B.k) _ _ _ A.e B.e _ _ _ _ i w' (HF5.out.fr h) (HEL.out.1.fr (HC5.out.tr h)) (HEL.out.2.fr (HC5.out.tr h)) (h.cell x10 id) (h.cell xa id) (h.cell x12 id) (h.cell xb id) hi hl1 hl2 HIN.out.1 HIN.out.2⟩
    generalize hel : ouP (mixP f A.k B.k) A.e B.e = el at hmd
    obtain ⟨N, hN⟩ : ∃ N, A.e.length * B.e.length = N := ⟨_, rfl⟩
    rw [hN] at hmd
    have HN := Lib.hid (show outE f A B = mdE N el ∧ outA f A B = if mdE N el = 0 then ⟨1, sh, tabV N el⟩ else noA from by
      have h9 := HRE.out
      rw [hN, hel] at h9
      refine ⟨h9, ?_⟩
      unfold outA
      rw [h9, hN, hel, HSH.out])
    clear hel hN hK3 hK4 x10 x12 xa xb hB y0 y1 z0 z1
    go_wp2_with fail
    refine hmd.mono ?_
    clear hmd z2a z2 y2
    rintro e9 w6 ⟨km, vm, em, rfl, hC6, hm0, hm1⟩
    obtain ⟨p1, n1, c1, p2, n2, c2, rfl, rfl⟩ := md_form hm0 hm1
    have HM := Lib.hid (And.intro hm0 hm1)
    have HLT := Lib.hid HB5.out.lt
    obtain ⟨q0, q1, q2, f0, f1, f2⟩ := HB5.out.fr hC6
    obtain ⟨⟨g0, g1⟩, g2⟩ := set3_cells (.int .i64 km) (.slice p1 n1 c1) (.slice p2 n2 c2) q0 q1 q2
    have HCW := Lib.hid (HC5.out.tr hC6)
    have HO6 := Lib.hid (HO5.out.fr hC6)
    clear hm0 hm1 hC6
    go_wp2
    simp [bodyPost, results, Try.results13, go_sem, g0, g1, g2]
    rw [HN.out.1, HN.out.2]
    by_cases hq : mdE N el = 0
    · obtain ⟨rfl, hv, ho⟩ := HM.out.1 hq
      rw [hq, if_pos rfl, hv]
      rw [hv] at *
      exact leaveAE HO6.out ho (Nat.le_trans (Nat.le_succ _) (Nat.le_succ _)) (Nat.lt_succ_self _) HLT.out HCW.out
    · obtain ⟨rfl, hv, hv2⟩ := HM.out.2 hq
      rw [if_neg hq, hv, hv2]
      exact leaveNo (Nat.le_trans (Nat.le_succ _) (Nat.le_succ _)) HCW.out
  · have ez : (E != 0) = true := bne_iff_ne.2 hz
    have HR := Lib.hid (show outE f A B = E ∧ outA f A B = noA from ⟨by unfold outE; rw [HE.out, if_neg hz], by unfold outA outE; rw [HE.out, if_neg hz, if_neg hz]⟩)
    have HZ := Lib.hid hz
    clear hz HE
    go_enter Try.func13, Try.ntmps13
    go_wp2_with fail
    refine h1.mono ?_
    clear h1
    rintro e9 w1 ⟨vh, rfl, hC1, _, ho⟩
    obtain rfl := ho HZ.out
    replace HC := Lib.hid (HC.out.tr hC1)
    replace y0 := hC1.cell y0 id
    replace y1 := hC1.cell y1 id
    replace y2 := hC1.cell y2 id
    replace z0 := hC1.cell z0 id
    replace z1 := hC1.cell z1 id
    replace z2 := hC1.cell z2 id
    replace hB := hB.fr hC1
    clear ho hC1
    obtain ⟨p0, p1, p2, f0, f1, f2⟩ := hB
    obtain ⟨⟨g0, g1⟩, g2⟩ := set3_cells (.int .i64 0) (.slice none 0 0) (.slice none 0 0) p0 p1 p2
    go_wp2
    simp [bodyPost, results, Try.results13, go_sem, g0, g1, g2]
    rw [HR.out.1, HR.out.2]
    exact leaveNo (Nat.le_trans (Nat.le_succ _) (Nat.le_succ _)) HC.out
end Go.Proofs.Ytjmlekdgipinfaa
