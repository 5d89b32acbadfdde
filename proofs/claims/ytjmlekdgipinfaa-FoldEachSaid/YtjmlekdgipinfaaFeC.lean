/- FoldEach: each element of an outer product is the function of its two, and the first one that has an error says it; an inner product of vectors is the reduce of what the second function makes of both. -/
import Derived.Test.YtjmlekdgipinfaaFeB
import Derived.Test.YtjmlekdgipinfaaFdJ
import Derived.Test.YtjmlekdgipinfaaArO
import Derived.Deep.Cut
namespace Go.Proofs.Ytjmlekdgipinfaa
open Go.RowKit Go.Shelf

abbrev True_ := @Tru16
theorem func_eqM (k : Nat) (lb : Array Value) (w : World) : (binOp .eql 33 (.func (.func k) #[] lb) .nilFunc).run Try.prog w = .ok (.bool false) w := by
  kernel_rfl
/-- The two arrays' boxes. -/
structure Bx2 (w : World) (p q : Nat) (sa ea ta fa : Option Addr) (cs ce ct cf : Nat) (A B : Ar) : Prop where
  a0 : w.cell? ⟨p, 0, none⟩ = some (.int .i64 A.k)
  a1 : w.cell? ⟨p, 1, none⟩ = some (.slice sa A.s.length cs)
  a2 : w.cell? ⟨p, 2, none⟩ = some (.slice ea A.e.length ce)
  b0 : w.cell? ⟨q, 0, none⟩ = some (.int .i64 B.k)
  b1 : w.cell? ⟨q, 1, none⟩ = some (.slice ta B.s.length ct)
  b2 : w.cell? ⟨q, 2, none⟩ = some (.slice fa B.e.length cf)
  ls : Ls w (.slice sa A.s.length cs) A.s ∧ Ls w (.slice ea A.e.length ce) A.e ∧ Ls w (.slice ta B.s.length ct) B.s ∧ Ls w (.slice fa B.e.length cf) B.e
theorem Bx2.fr {w w' : World} {p q : Nat} {sa ea ta fa : Option Addr} {cs ce ct cf : Nat} {A B : Ar} (h : Bx2 w p q sa ea ta fa cs ce ct cf A B) (hC : Chg (fun _ => False) w w') : Bx2 w' p q sa ea ta fa cs ce ct cf A B :=
  ⟨hC.cell h.a0 id, hC.cell h.a1 id, hC.cell h.a2 id, hC.cell h.b0 id, hC.cell h.b1 id, hC.cell h.b2 id, h.ls.1.fr hC, h.ls.2.1.fr hC, h.ls.2.2.1.fr hC, h.ls.2.2.2.fr hC⟩
theorem Bx2.araA {w : World} {p q : Nat} {sa ea ta fa : Option Addr} {cs ce ct cf : Nat} {A B : Ar} (h : Bx2 w p q sa ea ta fa cs ce ct cf A B) : Ara w (.agg #[.int .i64 A.k, .slice sa A.s.length cs, .slice ea A.e.length ce]) A := ⟨_, _, rfl, h.ls.1, h.ls.2.1⟩
theorem Bx2.araB {w : World} {p q : Nat} {sa ea ta fa : Option Addr} {cs ce ct cf : Nat} {A B : Ar} (h : Bx2 w p q sa ea ta fa cs ce ct cf A B) : Ara w (.agg #[.int .i64 B.k, .slice ta B.s.length ct, .slice fa B.e.length cf]) B := ⟨_, _, rfl, h.ls.2.2.1, h.ls.2.2.2⟩
/-- What the outer product is. -/
theorem out_cases (f : Int) (A B : Ar) : (ouE f A B ≠ 0 → outE f A B = ouE f A B) ∧ (ouE f A B = 0 → outE f A B = fstE (tabP (A.e.length * B.e.length) (ouP (mixP f A.k B.k) A.e B.e))) ∧
    (outE f A B = 0 → outA f A B = ⟨1, A.s ++ B.s, tabV (A.e.length * B.e.length) (ouP (mixP f A.k B.k) A.e B.e)⟩) := by
  refine ⟨fun h => by unfold outE; rw [if_neg h], fun h => by unfold outE mdE; rw [if_pos h], fun h => by unfold outA; rw [if_pos h]⟩
theorem tabV_get (n : Nat) (el : Nat → Int × Int) (i : Nat) (h : i < n) : (tabV n el)[i]? = some (el i).1 := by simp [tabV, tabP, h]
theorem grt_not {m : Nat} {A B : Ar} (h : (grt16 m A || grt16 m B) = false) : A.e.length ≤ m ∧ B.e.length ≤ m ∧ A.s.length ≤ 100 ∧ B.s.length ≤ 100 := by
  unfold grt16 at h
  simp only [Bool.or_eq_false_iff, decide_eq_false_iff_not] at h
  omega
theorem el_inn {A : Ar} (h : ∀ x ∈ A.e, In x) (i : Nat) : In (elAt A i) := by
  have h0 : ∀ j, In (A.e.getD j 0) := fun j => by
    rw [List.getD_eq_getElem?_getD]
    by_cases hj : j < A.e.length
    · rw [List.getElem?_eq_getElem hj]; exact h _ (List.getElem_mem hj)
    · rw [List.getElem?_eq_none (by omega)]; unfold In; decide
  unfold elAt
  split <;> exact h0 _
theorem va_inn {g : Int} {A B : Ar} (hA : ∀ x ∈ A.e, In x) (hB : ∀ x ∈ B.e, In x) (n : Nat) : ∀ x ∈ vaL (mixP g A.k B.k) (prL A B n), In x := by
  intro x hx
  unfold vaL prL at hx
  simp only [List.map_map, List.mem_map] at hx
  obtain ⟨i, _, rfl⟩ := hx
  exact mixP_In (el_inn hA i) (el_inn hB i)
theorem red_small {f : Int} {l : List Int} (hf : binB f = true) (hl : l.length ≤ 4096) : (redA f (vcA l)).s.length ≤ 1 ∧ (redA f (vcA l)).e.length ≤ 1 := by
  rw [(red_vec hf hl).2]
  split <;> simp [noA]
/-- A place among the pairs. -/
theorem div_facts {i na nb : Nat} (h : i < na * nb) (ha : na ≤ 10000) (hb : nb ≤ 10000) : ∃ q r, i / nb = q ∧ i % nb = r ∧ q < na ∧ r < nb ∧ Int.tdiv (i : Int) (nb : Int) = (q : Int) ∧ Int.tmod (i : Int) (nb : Int) = (r : Int) ∧ IntKind.i64.wrap (q : Int) = (q : Int) ∧ IntKind.i64.wrap (r : Int) = (r : Int) ∧ ¬ (nb : Int) = 0 ∧ ¬ nb = 0 := by
  have hN : 0 < nb := by
    rcases Nat.eq_zero_or_pos nb with e | e
    · rw [e, Nat.mul_zero] at h; omega
    · exact e
  obtain ⟨q, hq⟩ : ∃ q, i / nb = q := ⟨_, rfl⟩
  obtain ⟨r, hr⟩ : ∃ r, i % nb = r := ⟨_, rfl⟩
  have hql : q < na := by rw [← hq]; exact (Nat.div_lt_iff_lt_mul hN).2 h
  have hrl : r < nb := by rw [← hr]; exact Nat.mod_lt _ hN
  have d1 : Int.tdiv (i : Int) (nb : Int) = (q : Int) := by rw [Int.tdiv_eq_ediv_of_nonneg (by omega), ← hq]; exact (Int.natCast_ediv _ _).symm
  have d2 : Int.tmod (i : Int) (nb : Int) = (r : Int) := by rw [Int.tmod_eq_emod_of_nonneg (by omega), ← hr]; exact (Int.natCast_emod _ _).symm
  refine ⟨q, r, hq, hr, hql, hrl, d1, d2, ?_, ?_, ?_, ?_⟩ <;> clear d1 d2 hq hr h
  · exact IntWalk.i64_in _ (by omega)
  · exact IntWalk.i64_in _ (by omega)
  · omega
  · omega
set_option maxRecDepth 100000 in
set_option maxHeartbeats 8000000 in
theorem foldEach_walk (f g : Int) (u : Value) (A : Ar) (v : Value) (B : Ar) (W : World) (_h : (Lit.int .i64 f).wf = true) (_k : (Lit.int .i64 g).wf = true) (h1 : OkArr W u A) (h2 : OkArr W v B) : Calls Try.prog 3 #[.int .i64 f, .int .i64 g, u, v] W (True_ W) := by
  clear _h _k
  have hA := h1.1
  have hB := h2.1
  have HIA := Lib.hid (show ∀ x ∈ A.e, In x from h1.2.2.2)
  have HIB := Lib.hid (show ∀ x ∈ B.e, In x from h2.2.2.2)
  clear h1 h2
  have hal := alive_any
  obtain ⟨vs, ve, rfl, hs, he⟩ := hA
  obtain ⟨us, ue, rfl, ht, hf⟩ := hB
  obtain ⟨sa, cs, rfl, _⟩ := hs.form
  obtain ⟨ea, ce, rfl, _⟩ := he.form
  obtain ⟨ta, ct, rfl, _⟩ := ht.form
  obtain ⟨fa, cf, rfl, _⟩ := hf.form
  have HL := Lib.hid (show Ls W _ A.s ∧ Ls W _ A.e ∧ Ls W _ B.s ∧ Ls W _ B.e from ⟨hs, he, ht, hf⟩)
  clear hs he ht hf
  go_enter Try.func3, Try.ntmps3
  go_wp2_with fail
  obtain ⟨v1, hv1⟩ : ∃ v, W.alloc (.cells #[.int .i64 A.k, .slice sa A.s.length cs, .slice ea A.e.length ce] 25) = v := ⟨_, rfl⟩
  obtain ⟨v2, hv2⟩ : ∃ v, v1.alloc (.cells #[.int .i64 B.k, .slice ta B.s.length ct, .slice fa B.e.length cf] 25) = v := ⟨_, rfl⟩
  rw [hv1, hv2]
  have z1 : v1.heap.size = W.heap.size + 1 := by rw [← hv1, World.size_alloc]
  have g1 : Chg (fun _ => False) W v1 := by rw [← hv1]; exact (Chg.refl _ _).alloc _
  have g2 : Chg (fun _ => False) v1 v2 := by rw [← hv2]; exact (Chg.refl _ _).alloc _
  obtain ⟨a0, a1, a2⟩ := cell_two W (.int .i64 A.k) (.slice sa A.s.length cs) (.slice ea A.e.length ce) 25
  rw [hv1] at a0 a1 a2
  obtain ⟨b0, b1, b2⟩ := cell_two v1 (.int .i64 B.k) (.slice ta B.s.length ct) (.slice fa B.e.length cf) 25
  rw [z1, hv2] at b0 b1 b2
  have HB2 := Lib.hid (show Bx2 v2 W.heap.size (W.heap.size + 1) sa ea ta fa cs ce ct cf A B from ⟨g2.cell a0 id, g2.cell a1 id, g2.cell a2 id, b0, b1, b2, HL.out.1.fr (g1.tr g2), HL.out.2.1.fr (g1.tr g2), HL.out.2.2.1.fr (g1.tr g2), HL.out.2.2.2.fr (g1.tr g2)⟩)
  have HC := Lib.hid (g1.tr g2)
  clear HL a0 a1 a2 b0 b1 b2 g1 g2 hv1 hv2 z1
  have a0 := HB2.out.a0
  have a1 := HB2.out.a1
  have a2 := HB2.out.a2
  have b0 := HB2.out.b0
  have b1 := HB2.out.b1
  have b2 := HB2.out.b2
  refine (hal _).mono ?_
  clear hal
  rintro e9 w1 ⟨rfl, hC1⟩
  clear a0 a1 a2 b0 b1 b2
  replace HB2 := Lib.hid (HB2.out.fr hC1)
  replace HC := Lib.hid (HC.out.tr hC1)
  have a0 := HB2.out.a0
  have a1 := HB2.out.a1
  have a2 := HB2.out.a2
  have b0 := HB2.out.b0
  have b1 := HB2.out.b1
  have b2 := HB2.out.b2
  clear hC1
  obtain ⟨gr, hgr⟩ : ∃ b, (grt16 100 A || grt16 100 B) = b := ⟨_, rfl⟩
  have HGR := Lib.hid hgr
  clear hgr
  have hg1 := great16_any 100 sa ea ta fa cs ce ct cf w1.heap.size A B (w1.alloc (.cells #[.int .i64 A.k, .slice sa A.s.length cs, .slice ea A.e.length ce, .int .i64 B.k, .slice ta B.s.length ct, .slice fa B.e.length cf] 25)) ⟨⟨new_cell _ _ _ rfl, new_cell _ _ _ rfl⟩, new_cell _ _ _ rfl, new_cell _ _ _ rfl⟩ gr HGR.out
  unfold SaidB at hg1
  have hCa := (Chg.refl (fun _ => False) w1).alloc (.cells #[.int .i64 A.k, .slice sa A.s.length cs, .slice ea A.e.length ce, .int .i64 B.k, .slice ta B.s.length ct, .slice fa B.e.length cf] 25)
  go_wp2_with fail
  refine hg1.mono ?_
  clear hg1
  rintro e9 w2 ⟨rfl, e2⟩
  rw [← e2] at hCa
  clear e2
  clear a0 a1 a2 b0 b1 b2
  replace HB2 := Lib.hid (HB2.out.fr hCa)
  replace HC := Lib.hid (HC.out.tr hCa)
  have a0 := HB2.out.a0
  have a1 := HB2.out.a1
  have a2 := HB2.out.a2
  have b0 := HB2.out.b0
  have b1 := HB2.out.b1
  have b2 := HB2.out.b2
  clear hCa
  cases gr with
  | true =>
    go_wp2
    go_ret
    exact ⟨rfl, HC.out⟩
  | false =>
    have HG := Lib.hid (grt_not HGR.out)
    have hou := outer_any f _ _ A B w2 HB2.out.araA HB2.out.araB (by have := HG.out; omega) (by have := HG.out; omega) HIA.out HIB.out
    unfold GaveAE at hou
    obtain ⟨hO1, hO2, hO3⟩ := out_cases f A B
    obtain ⟨C, hC⟩ : ∃ X, outA f A B = X := ⟨_, rfl⟩
    obtain ⟨EO, hEO⟩ : ∃ X, outE f A B = X := ⟨_, rfl⟩
    obtain ⟨N, hN⟩ : ∃ X, A.e.length * B.e.length = X := ⟨_, rfl⟩
    obtain ⟨el, hel⟩ : ∃ X, ouP (mixP f A.k B.k) A.e B.e = X := ⟨_, rfl⟩
    rw [hC, hEO] at hou
    rw [hEO] at hO1 hO2 hO3
    rw [hN, hel] at hO2 hO3
    rw [hC] at hO3
    have HO := Lib.hid (And.intro hO1 (And.intro hO2 hO3))
    have HN := Lib.hid hN
    have HEL := Lib.hid hel
    have hN2 : N ≤ 10000 := by
      rw [← hN]
      exact Nat.mul_le_mul HG.out.1 HG.out.2.1
    have HN2 := Lib.hid hN2
    have HMUL := Lib.hid (show IntKind.i64.wrap ((A.e.length : Int) * (B.e.length : Int)) = (N : Int) from by
      rw [← Int.natCast_mul, hN]
      exact IntWalk.i64_in _ (by omega))
    clear hO1 hO2 hO3 hC hEO hN hel hN2
    go_wp2_with fail
    refine hou.mono ?_
    clear hou
    rintro e9 w3 ⟨vc, rfl, hoc, hC3⟩
    obtain ⟨c1, n1, c2, n2, rfl, hcs, hce⟩ := ara_new hoc
    have hoS := outerS_any f _ _ A B (w3.alloc (.cells #[.int .i64 C.k, .slice c1 C.s.length n1, .slice c2 C.e.length n2] 25)) ((HB2.out.fr hC3).fr ((Chg.refl _ _).alloc _)).araA ((HB2.out.fr hC3).fr ((Chg.refl _ _).alloc _)).araB (by have := HG.out; omega) (by have := HG.out; omega)
    unfold GaveOS at hoS
    obtain ⟨E0, hE0⟩ : ∃ X, ouE f A B = X := ⟨_, rfl⟩
    rw [hE0] at hoS
    have HE0 := Lib.hid hE0
    clear hE0
    obtain ⟨d0, d1, d2⟩ := cell_two w3 (.int .i64 C.k) (.slice c1 C.s.length n1) (.slice c2 C.e.length n2) 25
    have HCL := Lib.hid (And.intro (hcs.ls.fr ((Chg.refl (fun _ => False) w3).alloc (.cells #[.int .i64 C.k, .slice c1 C.s.length n1, .slice c2 C.e.length n2] 25))) (hce.ls.fr ((Chg.refl (fun _ => False) w3).alloc (.cells #[.int .i64 C.k, .slice c1 C.s.length n1, .slice c2 C.e.length n2] 25))))
    have hC4 := hC3.tr ((Chg.refl (fun _ => False) w3).alloc (.cells #[.int .i64 C.k, .slice c1 C.s.length n1, .slice c2 C.e.length n2] 25))
    obtain ⟨w4, hw4⟩ : ∃ X, w3.alloc (.cells #[.int .i64 C.k, .slice c1 C.s.length n1, .slice c2 C.e.length n2] 25) = X := ⟨_, rfl⟩
    obtain ⟨xc, hxc⟩ : ∃ X, w3.heap.size = X := ⟨_, rfl⟩
    rw [hw4] at hoS d0 d1 d2 hC4
    rw [hw4] at HCL
    rw [hxc] at d0 d1 d2
    have HW4 := Lib.hid hw4
    have HXC := Lib.hid hxc
    have HC4 := Lib.hid hC4
    clear hw4 hxc hcs hce hoc hC4
    replace a0 := hC3.cell a0 id
    replace a1 := hC3.cell a1 id
    replace a2 := hC3.cell a2 id
    replace b0 := hC3.cell b0 id
    replace b1 := hC3.cell b1 id
    replace b2 := hC3.cell b2 id
    have gA : W.heap.size < w3.heap.size := cell_lt a0
    have gB : W.heap.size + 1 < w3.heap.size := cell_lt b0
    clear hC3
    go_wp2_with fail
    rw [HW4.out, HXC.out]
    clear gA gB
    clear a0 a1 a2 b0 b1 b2
    replace HB2 := Lib.hid (HB2.out.fr HC4.out)
    replace HC := Lib.hid (HC.out.tr HC4.out)
    have a0 := HB2.out.a0
    have a1 := HB2.out.a1
    have a2 := HB2.out.a2
    have b0 := HB2.out.b0
    have b1 := HB2.out.b1
    have b2 := HB2.out.b2
    refine hoS.mono ?_
    clear hoS HW4 HXC HC4
    rintro e9 w5 ⟨vS, rfl, hC5, hS0, hS1⟩
    clear a0 a1 a2 b0 b1 b2
    replace HB2 := Lib.hid (HB2.out.fr hC5)
    replace HC := Lib.hid (HC.out.tr hC5)
    have a0 := HB2.out.a0
    have a1 := HB2.out.a1
    have a2 := HB2.out.a2
    have b0 := HB2.out.b0
    have b1 := HB2.out.b1
    have b2 := HB2.out.b2
    replace d0 := hC5.cell d0 id
    replace d1 := hC5.cell d1 id
    replace d2 := hC5.cell d2 id
    replace HCL := Lib.hid (show Ls w5 _ C.s ∧ Ls w5 _ C.e from ⟨HCL.out.1.fr hC5, HCL.out.2.fr hC5⟩)
    clear hC5
    by_cases hz : E0 = 0
    · obtain ⟨hk1, hk2, hk3⟩ := ou_zero (HE0.out.trans hz)
      have hmx := mixed_any f A.k B.k
      rw [hk2] at hmx
      have hoS := hS0 hz
      obtain ⟨S, hS⟩ : ∃ S, A.s ++ B.s = S := ⟨_, rfl⟩
      rw [hS] at hoS
      have HS := Lib.hid hS
      obtain ⟨ao, co, rfl⟩ := own_name hoS
      have HOS := Lib.hid hoS.ls
      have HFST := Lib.hid (HO.out.2.1 (HE0.out.trans hz))
      subst hz
      clear hk1 hk2 hk3 hS0 hS1 hoS hS
      go_wp2_with fail
      refine (hmx _).mono ?_
      clear hmx
      rintro e9 w6 ⟨vf, rfl, hf0, _, hC6⟩
      obtain ⟨gf, lb, rfl, egf, hcf⟩ := hf0 (by first | rfl | trivial)
      have HCF := Lib.hid hcf
      have hnf := fun w => func_eqM gf lb w
      clear a0 a1 a2 b0 b1 b2
      replace HB2 := Lib.hid (HB2.out.fr hC6)
      replace HC := Lib.hid (HC.out.tr hC6)
      have a0 := HB2.out.a0
      have a1 := HB2.out.a1
      have a2 := HB2.out.a2
      have b0 := HB2.out.b0
      have b1 := HB2.out.b1
      have b2 := HB2.out.b2
      replace d0 := hC6.cell d0 id
      replace d1 := hC6.cell d1 id
      replace d2 := hC6.cell d2 id
      replace HCL := Lib.hid (show Ls w6 _ C.s ∧ Ls w6 _ C.e from ⟨HCL.out.1.fr hC6, HCL.out.2.fr hC6⟩)
      replace HOS := Lib.hid (HOS.out.fr hC6)
      clear hcf hf0 hC6
      by_cases hq : EO = 0
      · have hCC := HO.out.2.2 hq
        have hsh := r11shapes_any _ _ C.s S w6 HCL.out.1 HOS.out
        unfold GaveBo at hsh
        have hcs : C.s = S := by rw [hCC]; exact HS.out
        rw [decide_eq_true hcs] at hsh
        have hcl : C.s.length ≤ 1000000 := by rw [hcs, ← HS.out, List.length_append]; have := HG.out; omega
        have HCN := Lib.hid (show C.e.length = N ∧ ∀ i, i < N → C.e[i]? = some (el i).1 from by rw [hCC]; exact ⟨tabV_length _ _, fun i hi => tabV_get N el i hi⟩)
        have HZO := Lib.hid (show ∀ i, i < N → (el i).2 = 0 from fstE_zero (HFST.out.symm.trans hq))
        replace hsh := hsh (Nat.le_trans hcl (by decide))
        subst hq
        clear hCC hcs hcl
        go_wp2_with fail
        refine hsh.mono ?_
        clear hsh
        rintro e9 w7 ⟨rfl, hC7⟩
        clear a0 a1 a2 b0 b1 b2
        replace HB2 := Lib.hid (HB2.out.fr hC7)
        replace HC := Lib.hid (HC.out.tr hC7)
        have a0 := HB2.out.a0
        have a1 := HB2.out.a1
        have a2 := HB2.out.a2
        have b0 := HB2.out.b0
        have b1 := HB2.out.b1
        have b2 := HB2.out.b2
        replace d0 := hC7.cell d0 id
        replace d1 := hC7.cell d1 id
        replace d2 := hC7.cell d2 id
        replace HCL := Lib.hid (show Ls w7 _ C.s ∧ Ls w7 _ C.e from ⟨HCL.out.1.fr hC7, HCL.out.2.fr hC7⟩)
        have HC67 := Lib.hid hC7
        clear hC7
        go_wp2
        go_loopw [16, 17] (fun vw vi wr => ∃ i : Nat, i ≤ N ∧ vw = .int .i64 (fstE (tabP i el)) ∧ vi = .int .i64 i ∧ Chg (fun _ => False) w7 wr) (fun _ vi _ => N - (intOf vi).toNat)
        case atStart => exact ⟨0, Nat.zero_le _, rfl, rfl, Chg.refl _ _⟩
        case round =>
          obtain ⟨i, hi, rfl, rfl, hCr⟩ := hrel
          obtain ⟨ew, hew⟩ : ∃ e, fstE (tabP i el) = e := ⟨_, rfl⟩
          rw [hew]
          have HCR := Lib.hid hCr
          have HEW := Lib.hid hew
          clear a0 a1 a2 b0 b1 b2
          replace HB2 := Lib.hid (HB2.out.fr hCr)
          replace HC := Lib.hid (HC.out.tr hCr)
          have a0 := HB2.out.a0
          have a1 := HB2.out.a1
          have a2 := HB2.out.a2
          have b0 := HB2.out.b0
          have b1 := HB2.out.b1
          have b2 := HB2.out.b2
          replace d0 := hCr.cell d0 id
          replace d1 := hCr.cell d1 id
          replace d2 := hCr.cell d2 id
          clear hew
          by_cases hlt : i < N
          · have HLT := Lib.hid hlt
            have hd1 : decide ((i : Int) < (N : Int)) = true := decide_eq_true (by clear hCr; omega)
            by_cases hw : ew = 0
            · subst hw
              obtain ⟨q, r, hq, hr, hqa, hrb, d4, d5, k1, k2, n1', n2'⟩ := div_facts (show i < A.e.length * B.e.length by rw [HN.out]; exact hlt) (by have := HG.out; omega) (by have := HG.out; omega)
              obtain ⟨xa, oa, cxa, ea1, hx⟩ := HB2.out.ls.2.1.at hqa
              injection ea1 with ea1 ea2 ea3
              subst ea1
              clear ea2 ea3
              obtain ⟨xb, ob, cxb, eb1, hy⟩ := HB2.out.ls.2.2.2.at hrb
              injection eb1 with eb1 eb2 eb3
              subst eb1
              clear eb2 eb3
              have hcc := HCF.out A.e[q] B.e[r] (HIA.out _ (List.getElem_mem hqa)) (HIB.out _ (List.getElem_mem hrb)) wr.drew (HC67.out.tr hCr).drew
              have hp : el i = mixP f A.k B.k A.e[q] B.e[r] := by
                rw [← HEL.out]
                unfold ouP
                rw [hq, hr]
                simp [hqa, hrb]
              rw [← hp] at hcc
              obtain ⟨⟨vx, xe⟩, hpx⟩ : ∃ r, el i = r := ⟨_, rfl⟩
              rw [hpx] at hcc
              unfold GaveP at hcc
              simp only at hcc
              have HP := Lib.hid hpx
              have HNX := Lib.hid (show fstE (tabP (i + 1) el) = xe from by rw [fstE_succ HEW.out, HP.out])
              generalize A.e[q] = x at *
              generalize B.e[r] = y at *
              have q0 : (0 : Int) ≤ (q : Int) := by clear d4 d5; omega
              have q1 : (q : Int) < (A.e.length : Int) := by clear d4 d5; omega
              have r0 : (0 : Int) ≤ (r : Int) := by clear d4 d5; omega
              have r1 : (r : Int) < (B.e.length : Int) := by clear d4 d5; omega
              have n3' : ¬ B.e = [] := by intro e; rw [e] at n2'; exact n2' rfl
              have KP := Lib.hid (show ∀ w', Chg (fun _ => False) wr w' → (Chg (fun _ => False) wr w' ∧ w'.cell? ⟨W.heap.size, 2, none⟩ = some (.slice (some ⟨xa, oa, none⟩) A.e.length ce) ∧ w'.cell? ⟨W.heap.size + 1, 2, none⟩ = some (.slice (some ⟨xb, ob, none⟩) B.e.length cf) ∧ w'.cell? ⟨xa, oa + q, none⟩ = some (.int .i64 x) ∧ w'.cell? ⟨xb, ob + r, none⟩ = some (.int .i64 y)) from fun w' h => ⟨h, h.cell a2 id, h.cell b2 id, h.cell hx id, h.cell hy id⟩)
              have HKW := Lib.hid (show IntKind.i64.wrap ((i : Int) + 1) = (i : Int) + 1 from IntWalk.i64_in _ (by clear d4 d5; have := HN2.out; omega))
              have hmul := HMUL.out
              clear hp hpx hq hr hqa hrb hlt hi
              go_wp2
              clear hmul
              go_region_held3 (fun w' => (Chg (fun _ => False) wr w' ∧ w'.cell? ⟨W.heap.size, 2, none⟩ = some (.slice (some ⟨xa, oa, none⟩) A.e.length ce) ∧ w'.cell? ⟨W.heap.size + 1, 2, none⟩ = some (.slice (some ⟨xb, ob, none⟩) B.e.length cf) ∧ w'.cell? ⟨xa, oa + q, none⟩ = some (.int .i64 x) ∧ w'.cell? ⟨xb, ob + r, none⟩ = some (.int .i64 y))) ((refine KP.out _ ?_; repeat (first | (with_reducible exact Chg.refl _ _) | (with_reducible refine chg_drew' ?_) | (with_reducible refine Chg.tr ?_ hCP)))) (first | ((with_reducible refine hcc.mono ?_); rintro e9 wP ⟨rfl, hCP⟩))
              all_goals
                rename_i hHd
                have HCP := Lib.hid hHd.1
                clear hHd
                replace d0 := HCP.out.cell d0 id
                replace d1 := HCP.out.cell d1 id
                replace d2 := HCP.out.cell d2 id
                have hkw := HKW.out
                clear hcc hx hy a0 a1 a2 b0 b1 b2 egf d4 d5 k1 k2 n1' n2' n3' q0 q1 r0 r1 hd1 hCr
                have hx0 : xe = 0 := by have := HZO.out i HLT.out; rw [HP.out] at this; exact this
                subst hx0
                obtain ⟨bc, oc, qc, ec, hcv⟩ := HCL.out.2.at (j := i) (by rw [HCN.out.1]; exact HLT.out)
                injection ec with ec ec2 ec3
                subst ec
                clear ec2 ec3
                have hcx : C.e[i]'(by rw [HCN.out.1]; exact HLT.out) = vx := by
                  have h9 := HCN.out.2 i HLT.out
                  rw [List.getElem?_eq_getElem (by rw [HCN.out.1]; exact HLT.out), HP.out] at h9
                  exact Option.some.inj h9
                rw [hcx] at hcv
                replace hcv := (HCR.out.tr HCP.out).cell hcv id
                have hi0 : (0 : Int) ≤ (i : Int) := by omega
                have hi1 : (i : Int) < (C.e.length : Int) := by rw [HCN.out.1]; have := HLT.out; omega
                have hvv : (vx != vx) = false := by simp
                clear hcx
                go_wp2
                go_roundw
                case rel => exact ⟨i + 1, HLT.out, congrArg (Value.int IntKind.i64) HNX.out.symm, congrArg (Value.int IntKind.i64) (Int.natCast_succ i).symm, HCR.out.tr HCP.out⟩
                case measure => exact fit_meas i _ HLT.out
            · have ee : (ew == 0) = false := beq_eq_false_iff_ne.2 hw
              have hxx : 0 = ew := by rw [HFST.out, fstE_all (Nat.le_of_lt hlt) (by rw [HEW.out]; exact hw), HEW.out]
              exact absurd hxx.symm hw
          · have hiN : i = N := by omega
            have hd1 : decide (i < N) = false := decide_eq_false (by omega)
            have hd2 : decide ((i : Int) < (N : Int)) = false := decide_eq_false (by omega)
            have hxx : 0 = ew := by rw [HFST.out, ← HEW.out, hiN]
            subst hxx
            have e3 : ((0 : Int) != 0) = false := by simp
            clear hlt hi hCr egf hiN
            have HHC := Lib.hid HC.out
            by_cases hsA : A.s.length = 1
            · by_cases hsB : B.s.length = 1
              · have e1 : ((A.s.length : Int) != 1) = false := by rw [bne_eq_false_iff_eq]; omega
                have e2 : ((B.s.length : Int) != 1) = false := by rw [bne_eq_false_iff_eq]; omega
                have HV := Lib.hid (And.intro (List.length_eq_one_iff.1 hsA) (List.length_eq_one_iff.1 hsB))
                clear hsA hsB
                have hin := inner_any f g _ _ A B wr HB2.out.araA HB2.out.araB (by have := HG.out; omega) (by have := HG.out; omega) HIA.out HIB.out
                unfold GaveAE at hin
                obtain ⟨IA, hIA⟩ : ∃ X, innA f g A B = X := ⟨_, rfl⟩
                obtain ⟨IE, hIE⟩ : ∃ X, innE f g A B = X := ⟨_, rfl⟩
                rw [hIA, hIE] at hin
                have HIN := Lib.hid (And.intro hIA hIE)
                clear hIA hIE
                have hmul := HMUL.out
                go_wp2_with fail
                clear hmul
                refine hin.mono ?_
                clear hin
                rintro e9 wa ⟨vi, rfl, hoi, hCi⟩
                obtain ⟨i1, k1, i2, k2, rfl, _, _⟩ := ara_new hoi
                have HI := Lib.hid hoi.ara
                clear a0 a1 a2 b0 b1 b2
                replace HB2 := Lib.hid (HB2.out.fr hCi)
                replace HC := Lib.hid (HC.out.tr hCi)
                have a0 := HB2.out.a0
                have a1 := HB2.out.a1
                have a2 := HB2.out.a2
                have b0 := HB2.out.b0
                have b1 := HB2.out.b1
                have b2 := HB2.out.b2
                clear hoi hCi
                have hmt := maptwo_any g _ _ A B (wa.alloc (.cells #[.int .i64 IA.k, .slice i1 IA.s.length k1, .slice i2 IA.e.length k2] 25)) (HB2.out.fr ((Chg.refl _ _).alloc _)).araA (HB2.out.fr ((Chg.refl _ _).alloc _)).araB (by have := HG.out; omega) (by have := HG.out; omega) HIA.out HIB.out
                unfold GaveMT at hmt
                obtain ⟨y0, y1, y2⟩ := cell_two wa (.int .i64 IA.k) (.slice i1 IA.s.length k1) (.slice i2 IA.e.length k2) 25
                obtain ⟨wb, hwb⟩ : ∃ X, wa.alloc (.cells #[.int .i64 IA.k, .slice i1 IA.s.length k1, .slice i2 IA.e.length k2] 25) = X := ⟨_, rfl⟩
                obtain ⟨xi, hxi⟩ : ∃ X, wa.heap.size = X := ⟨_, rfl⟩
                have hCb : Chg (fun _ => False) wa wb := by rw [← hwb]; exact (Chg.refl _ _).alloc _
                rw [hwb] at hmt y0 y1 y2
                rw [hxi] at y0 y1 y2
                replace HI := Lib.hid (HI.out.fr hCb)
                have HCb := Lib.hid hCb
                have HWB := Lib.hid hwb
                have HXI := Lib.hid hxi
                have gA : W.heap.size < wa.heap.size := cell_lt a0
                have gB : W.heap.size + 1 < wa.heap.size := cell_lt b0
                clear hCb hwb hxi
                go_wp2_with fail
                rw [HWB.out, HXI.out]
                clear gA gB HWB HXI
                clear a0 a1 a2 b0 b1 b2
                replace HB2 := Lib.hid (HB2.out.fr HCb.out)
                replace HC := Lib.hid (HC.out.tr HCb.out)
                have a0 := HB2.out.a0
                have a1 := HB2.out.a1
                have a2 := HB2.out.a2
                have b0 := HB2.out.b0
                have b1 := HB2.out.b1
                have b2 := HB2.out.b2
                refine hmt.mono ?_
                clear hmt
                rintro e9 wc ⟨vm, rfl, hCm, hm0, hm1⟩
                clear a0 a1 a2 b0 b1 b2
                replace HB2 := Lib.hid (HB2.out.fr hCm)
                replace HC := Lib.hid (HC.out.tr hCm)
                have a0 := HB2.out.a0
                have a1 := HB2.out.a1
                have a2 := HB2.out.a2
                have b0 := HB2.out.b0
                have b1 := HB2.out.b1
                have b2 := HB2.out.b2
                replace y0 := hCm.cell y0 id
                replace y1 := hCm.cell y1 id
                replace y2 := hCm.cell y2 id
                replace HI := Lib.hid (HI.out.fr hCm)
                clear hCm
                by_cases hz : mtE g A B = 0
                · have HZ := Lib.hid hz
                  have hm := hm0 hz
                  obtain ⟨M, hM⟩ : ∃ X : Ar, (⟨1, togL A.s B.s, vaL (mixP g A.k B.k) (prL A B (toN A B))⟩ : Ar) = X := ⟨_, rfl⟩
                  rw [hM] at hm
                  have HM := Lib.hid hM
                  obtain ⟨m1, n1, m2, n2, rfl, _, _⟩ := ara_new hm
                  have HMA := Lib.hid hm.ara
                  have em : (mtE g A B != 0) = false := by rw [hz]; rfl
                  have hbn := binary_any f
                  unfold SaidB at hbn
                  clear hz hm hM hm0 hm1
                  go_wp2_with fail
                  refine (hbn _).mono ?_
                  clear hbn
                  rintro e9 wd ⟨rfl, rfl⟩
                  cases hb : binB f with
                  | false =>
                    have hne : innE f g A B ≠ 0 := by
                      obtain ⟨⟨x1, h1⟩, ⟨x2, h2⟩⟩ := HV.out
                      exact inner_no h1 h2 (.inr hb)
                    rw [HIN.out.2] at hne
                    have ei : (IE != 0) = true := bne_iff_ne.2 hne
                    clear hne hb
                    go_wp2
                    go_ret
                    exact ⟨rfl, HC.out.alloc _⟩
                  | true =>
                    obtain ⟨⟨hq1, hq2⟩, hsm, hMl⟩ : (innE f g A B = redE f M ∧ innA f g A B = redA f M) ∧ ((redA f M).s.length ≤ 1 ∧ (redA f M).e.length ≤ 1) ∧ M.e.length ≤ 4096 := by
                      obtain ⟨⟨x1, h1⟩, ⟨x2, h2⟩⟩ := HV.out
                      obtain ⟨q1, q2⟩ := mt_is h1 h2 HZ.out (mixP g A.k B.k)
                      rw [← HM.out]
                      refine ⟨inner_is h1 h2 hb HZ.out, ?_, q2⟩
                      rw [q1]
                      exact red_small hb q2
                    rw [HIN.out.2] at hq1
                    rw [HIN.out.1] at hq2
                    rw [← hq2] at hsm
                    have hMI : ∀ x ∈ M.e, In x := by rw [← HM.out]; exact va_inn HIA.out HIB.out _
                    have hrd := reduce_any f _ M (wc.alloc (.cells #[.int .i64 M.k, .slice m1 M.s.length n1, .slice m2 M.e.length n2] 25)) (HMA.out.fr ((Chg.refl _ _).alloc _)) (by omega) hMI
                    unfold GaveAE at hrd
                    rw [← hq1, ← hq2] at hrd
                    have HSM := Lib.hid hsm
                    have hCx := (Chg.refl (fun _ => False) wc).alloc (.cells #[.int .i64 M.k, .slice m1 M.s.length n1, .slice m2 M.e.length n2] 25)
                    clear hq1 hq2 hsm hMl hMI hb
                    go_wp2_with fail
                    refine hrd.mono ?_
                    clear hrd
                    rintro e9 we ⟨vr, rfl, hor, hCr⟩
                    obtain ⟨r1, s1, r2, s2, rfl, _, _⟩ := ara_new hor
                    replace hCr := hCx.tr hCr
                    clear hCx
                    replace HC := Lib.hid (HC.out.tr hCr)
                    replace y0 := hCr.cell y0 id
                    replace y1 := hCr.cell y1 id
                    replace y2 := hCr.cell y2 id
                    have gX : xi < we.heap.size := cell_lt y0
                    have hsm := r11same_any _ _ IA IA (we.alloc (.cells #[.int .i64 IA.k, .slice r1 IA.s.length s1, .slice r2 IA.e.length s2] 25)) ((HI.out.fr hCr).fr ((Chg.refl _ _).alloc _)) (hor.ara.fr ((Chg.refl _ _).alloc _)) (by have := HSM.out; omega) (by have := HSM.out; omega)
                    rw [sameA_iff.2 rfl] at hsm
                    unfold GaveBo at hsm
                    have eii : (IE == IE) = true := by simp
                    clear hor hCr a0 a1 a2 b0 b1 b2
                    go_wp2_with fail
                    refine hsm.mono ?_
                    clear hsm
                    rintro e9 wf ⟨rfl, hCf⟩
                    go_wp2
                    go_ret
                    exact ⟨rfl, (HC.out.alloc _).tr hCf⟩
                · have hv := hm1 hz
                  subst hv
                  have em : (mtE g A B != 0) = true := bne_iff_ne.2 hz
                  have hne : innE f g A B ≠ 0 := by
                    obtain ⟨⟨x1, h1⟩, ⟨x2, h2⟩⟩ := HV.out
                    exact inner_no h1 h2 (.inl hz)
                  rw [HIN.out.2] at hne
                  have ei : (IE != 0) = true := bne_iff_ne.2 hne
                  clear hne hz hm0 hm1
                  go_wp2
                  go_ret
                  exact ⟨rfl, HC.out.alloc _⟩
              · have e1 : ((A.s.length : Int) != 1) = false := by rw [bne_eq_false_iff_eq]; omega
                have e2 : ((B.s.length : Int) != 1) = true := by rw [bne_iff_ne]; omega
                clear hsA hsB
                have hmul := HMUL.out
                go_wp2
                go_ret
                exact ⟨rfl, HC.out⟩
            · have e1 : ((A.s.length : Int) != 1) = true := by rw [bne_iff_ne]; omega
              clear hsA
              have hmul := HMUL.out
              go_wp2
              go_ret
              exact ⟨rfl, HC.out⟩
      · have eo : (EO == 0) = false := beq_eq_false_iff_ne.2 hq
        have HQ := Lib.hid hq
        clear hq
        go_wp2
        go_loopw [16, 17] (fun vw vi wr => ∃ i : Nat, i ≤ N ∧ vw = .int .i64 (fstE (tabP i el)) ∧ vi = .int .i64 i ∧ Chg (fun _ => False) w6 wr) (fun _ vi _ => N - (intOf vi).toNat)
        case atStart => exact ⟨0, Nat.zero_le _, rfl, rfl, Chg.refl _ _⟩
        case round =>
          obtain ⟨i, hi, rfl, rfl, hCr⟩ := hrel
          obtain ⟨ew, hew⟩ : ∃ e, fstE (tabP i el) = e := ⟨_, rfl⟩
          rw [hew]
          have HCR := Lib.hid hCr
          have HEW := Lib.hid hew
          clear a0 a1 a2 b0 b1 b2
          replace HB2 := Lib.hid (HB2.out.fr hCr)
          replace HC := Lib.hid (HC.out.tr hCr)
          have a0 := HB2.out.a0
          have a1 := HB2.out.a1
          have a2 := HB2.out.a2
          have b0 := HB2.out.b0
          have b1 := HB2.out.b1
          have b2 := HB2.out.b2
          replace d0 := hCr.cell d0 id
          replace d1 := hCr.cell d1 id
          replace d2 := hCr.cell d2 id
          clear hew
          by_cases hlt : i < N
          · have HLT := Lib.hid hlt
            have hd1 : decide ((i : Int) < (N : Int)) = true := decide_eq_true (by clear hCr; omega)
            by_cases hw : ew = 0
            · subst hw
              obtain ⟨q, r, hq, hr, hqa, hrb, d4, d5, k1, k2, n1', n2'⟩ := div_facts (show i < A.e.length * B.e.length by rw [HN.out]; exact hlt) (by have := HG.out; omega) (by have := HG.out; omega)
              obtain ⟨xa, oa, cxa, ea1, hx⟩ := HB2.out.ls.2.1.at hqa
              injection ea1 with ea1 ea2 ea3
              subst ea1
              clear ea2 ea3
              obtain ⟨xb, ob, cxb, eb1, hy⟩ := HB2.out.ls.2.2.2.at hrb
              injection eb1 with eb1 eb2 eb3
              subst eb1
              clear eb2 eb3
              have hcc := HCF.out A.e[q] B.e[r] (HIA.out _ (List.getElem_mem hqa)) (HIB.out _ (List.getElem_mem hrb)) wr.drew (hCr).drew
              have hp : el i = mixP f A.k B.k A.e[q] B.e[r] := by
                rw [← HEL.out]
                unfold ouP
                rw [hq, hr]
                simp [hqa, hrb]
              rw [← hp] at hcc
              obtain ⟨⟨vx, xe⟩, hpx⟩ : ∃ r, el i = r := ⟨_, rfl⟩
              rw [hpx] at hcc
              unfold GaveP at hcc
              simp only at hcc
              have HP := Lib.hid hpx
              have HNX := Lib.hid (show fstE (tabP (i + 1) el) = xe from by rw [fstE_succ HEW.out, HP.out])
              generalize A.e[q] = x at *
              generalize B.e[r] = y at *
              have q0 : (0 : Int) ≤ (q : Int) := by clear d4 d5; omega
              have q1 : (q : Int) < (A.e.length : Int) := by clear d4 d5; omega
              have r0 : (0 : Int) ≤ (r : Int) := by clear d4 d5; omega
              have r1 : (r : Int) < (B.e.length : Int) := by clear d4 d5; omega
              have n3' : ¬ B.e = [] := by intro e; rw [e] at n2'; exact n2' rfl
              have KP := Lib.hid (show ∀ w', Chg (fun _ => False) wr w' → (Chg (fun _ => False) wr w' ∧ w'.cell? ⟨W.heap.size, 2, none⟩ = some (.slice (some ⟨xa, oa, none⟩) A.e.length ce) ∧ w'.cell? ⟨W.heap.size + 1, 2, none⟩ = some (.slice (some ⟨xb, ob, none⟩) B.e.length cf) ∧ w'.cell? ⟨xa, oa + q, none⟩ = some (.int .i64 x) ∧ w'.cell? ⟨xb, ob + r, none⟩ = some (.int .i64 y)) from fun w' h => ⟨h, h.cell a2 id, h.cell b2 id, h.cell hx id, h.cell hy id⟩)
              have HKW := Lib.hid (show IntKind.i64.wrap ((i : Int) + 1) = (i : Int) + 1 from IntWalk.i64_in _ (by clear d4 d5; have := HN2.out; omega))
              have hmul := HMUL.out
              clear hp hpx hq hr hqa hrb hlt hi
              go_wp2
              clear hmul
              go_region_held3 (fun w' => (Chg (fun _ => False) wr w' ∧ w'.cell? ⟨W.heap.size, 2, none⟩ = some (.slice (some ⟨xa, oa, none⟩) A.e.length ce) ∧ w'.cell? ⟨W.heap.size + 1, 2, none⟩ = some (.slice (some ⟨xb, ob, none⟩) B.e.length cf) ∧ w'.cell? ⟨xa, oa + q, none⟩ = some (.int .i64 x) ∧ w'.cell? ⟨xb, ob + r, none⟩ = some (.int .i64 y))) ((refine KP.out _ ?_; repeat (first | (with_reducible exact Chg.refl _ _) | (with_reducible refine chg_drew' ?_) | (with_reducible refine Chg.tr ?_ hCP)))) (first | ((with_reducible refine hcc.mono ?_); rintro e9 wP ⟨rfl, hCP⟩))
              all_goals
                rename_i hHd
                have HCP := Lib.hid hHd.1
                clear hHd
                replace d0 := HCP.out.cell d0 id
                replace d1 := HCP.out.cell d1 id
                replace d2 := HCP.out.cell d2 id
                have hkw := HKW.out
                clear hcc hx hy a0 a1 a2 b0 b1 b2 egf d4 d5 k1 k2 n1' n2' n3' q0 q1 r0 r1 hd1 hCr
                go_wp2
                go_roundw
                case rel => exact ⟨i + 1, HLT.out, congrArg (Value.int IntKind.i64) HNX.out.symm, congrArg (Value.int IntKind.i64) (Int.natCast_succ i).symm, HCR.out.tr HCP.out⟩
                case measure => exact fit_meas i _ HLT.out
            · have ee : (ew == 0) = false := beq_eq_false_iff_ne.2 hw
              have hxx : EO = ew := by rw [HFST.out, fstE_all (Nat.le_of_lt hlt) (by rw [HEW.out]; exact hw), HEW.out]
              subst hxx
              have e3 : (EO != EO) = false := by simp
              clear hw hlt hi hCr egf
              have HHC := Lib.hid HC.out
              by_cases hsA : A.s.length = 1
              · by_cases hsB : B.s.length = 1
                · have e1 : ((A.s.length : Int) != 1) = false := by rw [bne_eq_false_iff_eq]; omega
                  have e2 : ((B.s.length : Int) != 1) = false := by rw [bne_eq_false_iff_eq]; omega
                  have HV := Lib.hid (And.intro (List.length_eq_one_iff.1 hsA) (List.length_eq_one_iff.1 hsB))
                  clear hsA hsB
                  have hin := inner_any f g _ _ A B wr HB2.out.araA HB2.out.araB (by have := HG.out; omega) (by have := HG.out; omega) HIA.out HIB.out
                  unfold GaveAE at hin
                  obtain ⟨IA, hIA⟩ : ∃ X, innA f g A B = X := ⟨_, rfl⟩
                  obtain ⟨IE, hIE⟩ : ∃ X, innE f g A B = X := ⟨_, rfl⟩
                  rw [hIA, hIE] at hin
                  have HIN := Lib.hid (And.intro hIA hIE)
                  clear hIA hIE
                  have hmul := HMUL.out
                  go_wp2_with fail
                  clear hmul
                  refine hin.mono ?_
                  clear hin
                  rintro e9 wa ⟨vi, rfl, hoi, hCi⟩
                  obtain ⟨i1, k1, i2, k2, rfl, _, _⟩ := ara_new hoi
                  have HI := Lib.hid hoi.ara
                  clear a0 a1 a2 b0 b1 b2
                  replace HB2 := Lib.hid (HB2.out.fr hCi)
                  replace HC := Lib.hid (HC.out.tr hCi)
                  have a0 := HB2.out.a0
                  have a1 := HB2.out.a1
                  have a2 := HB2.out.a2
                  have b0 := HB2.out.b0
                  have b1 := HB2.out.b1
                  have b2 := HB2.out.b2
                  clear hoi hCi
                  have hmt := maptwo_any g _ _ A B (wa.alloc (.cells #[.int .i64 IA.k, .slice i1 IA.s.length k1, .slice i2 IA.e.length k2] 25)) (HB2.out.fr ((Chg.refl _ _).alloc _)).araA (HB2.out.fr ((Chg.refl _ _).alloc _)).araB (by have := HG.out; omega) (by have := HG.out; omega) HIA.out HIB.out
                  unfold GaveMT at hmt
                  obtain ⟨y0, y1, y2⟩ := cell_two wa (.int .i64 IA.k) (.slice i1 IA.s.length k1) (.slice i2 IA.e.length k2) 25
                  obtain ⟨wb, hwb⟩ : ∃ X, wa.alloc (.cells #[.int .i64 IA.k, .slice i1 IA.s.length k1, .slice i2 IA.e.length k2] 25) = X := ⟨_, rfl⟩
                  obtain ⟨xi, hxi⟩ : ∃ X, wa.heap.size = X := ⟨_, rfl⟩
                  have hCb : Chg (fun _ => False) wa wb := by rw [← hwb]; exact (Chg.refl _ _).alloc _
                  rw [hwb] at hmt y0 y1 y2
                  rw [hxi] at y0 y1 y2
                  replace HI := Lib.hid (HI.out.fr hCb)
                  have HCb := Lib.hid hCb
                  have HWB := Lib.hid hwb
                  have HXI := Lib.hid hxi
                  have gA : W.heap.size < wa.heap.size := cell_lt a0
                  have gB : W.heap.size + 1 < wa.heap.size := cell_lt b0
                  clear hCb hwb hxi
                  go_wp2_with fail
                  rw [HWB.out, HXI.out]
                  clear gA gB HWB HXI
                  clear a0 a1 a2 b0 b1 b2
                  replace HB2 := Lib.hid (HB2.out.fr HCb.out)
                  replace HC := Lib.hid (HC.out.tr HCb.out)
                  have a0 := HB2.out.a0
                  have a1 := HB2.out.a1
                  have a2 := HB2.out.a2
                  have b0 := HB2.out.b0
                  have b1 := HB2.out.b1
                  have b2 := HB2.out.b2
                  refine hmt.mono ?_
                  clear hmt
                  rintro e9 wc ⟨vm, rfl, hCm, hm0, hm1⟩
                  clear a0 a1 a2 b0 b1 b2
                  replace HB2 := Lib.hid (HB2.out.fr hCm)
                  replace HC := Lib.hid (HC.out.tr hCm)
                  have a0 := HB2.out.a0
                  have a1 := HB2.out.a1
                  have a2 := HB2.out.a2
                  have b0 := HB2.out.b0
                  have b1 := HB2.out.b1
                  have b2 := HB2.out.b2
                  replace y0 := hCm.cell y0 id
                  replace y1 := hCm.cell y1 id
                  replace y2 := hCm.cell y2 id
                  replace HI := Lib.hid (HI.out.fr hCm)
                  clear hCm
                  by_cases hz : mtE g A B = 0
                  · have HZ := Lib.hid hz
                    have hm := hm0 hz
                    obtain ⟨M, hM⟩ : ∃ X : Ar, (⟨1, togL A.s B.s, vaL (mixP g A.k B.k) (prL A B (toN A B))⟩ : Ar) = X := ⟨_, rfl⟩
                    rw [hM] at hm
                    have HM := Lib.hid hM
                    obtain ⟨m1, n1, m2, n2, rfl, _, _⟩ := ara_new hm
                    have HMA := Lib.hid hm.ara
                    have em : (mtE g A B != 0) = false := by rw [hz]; rfl
                    have hbn := binary_any f
                    unfold SaidB at hbn
                    clear hz hm hM hm0 hm1
                    go_wp2_with fail
                    refine (hbn _).mono ?_
                    clear hbn
                    rintro e9 wd ⟨rfl, rfl⟩
                    cases hb : binB f with
                    | false =>
                      have hne : innE f g A B ≠ 0 := by
                        obtain ⟨⟨x1, h1⟩, ⟨x2, h2⟩⟩ := HV.out
                        exact inner_no h1 h2 (.inr hb)
                      rw [HIN.out.2] at hne
                      have ei : (IE != 0) = true := bne_iff_ne.2 hne
                      clear hne hb
                      go_wp2
                      go_ret
                      exact ⟨rfl, HC.out.alloc _⟩
                    | true =>
                      obtain ⟨⟨hq1, hq2⟩, hsm, hMl⟩ : (innE f g A B = redE f M ∧ innA f g A B = redA f M) ∧ ((redA f M).s.length ≤ 1 ∧ (redA f M).e.length ≤ 1) ∧ M.e.length ≤ 4096 := by
                        obtain ⟨⟨x1, h1⟩, ⟨x2, h2⟩⟩ := HV.out
                        obtain ⟨q1, q2⟩ := mt_is h1 h2 HZ.out (mixP g A.k B.k)
                        rw [← HM.out]
                        refine ⟨inner_is h1 h2 hb HZ.out, ?_, q2⟩
                        rw [q1]
                        exact red_small hb q2
                      rw [HIN.out.2] at hq1
                      rw [HIN.out.1] at hq2
                      rw [← hq2] at hsm
                      have hMI : ∀ x ∈ M.e, In x := by rw [← HM.out]; exact va_inn HIA.out HIB.out _
                      have hrd := reduce_any f _ M (wc.alloc (.cells #[.int .i64 M.k, .slice m1 M.s.length n1, .slice m2 M.e.length n2] 25)) (HMA.out.fr ((Chg.refl _ _).alloc _)) (by omega) hMI
                      unfold GaveAE at hrd
                      rw [← hq1, ← hq2] at hrd
                      have HSM := Lib.hid hsm
                      have hCx := (Chg.refl (fun _ => False) wc).alloc (.cells #[.int .i64 M.k, .slice m1 M.s.length n1, .slice m2 M.e.length n2] 25)
                      clear hq1 hq2 hsm hMl hMI hb
                      go_wp2_with fail
                      refine hrd.mono ?_
                      clear hrd
                      rintro e9 we ⟨vr, rfl, hor, hCr⟩
                      obtain ⟨r1, s1, r2, s2, rfl, _, _⟩ := ara_new hor
                      replace hCr := hCx.tr hCr
                      clear hCx
                      replace HC := Lib.hid (HC.out.tr hCr)
                      replace y0 := hCr.cell y0 id
                      replace y1 := hCr.cell y1 id
                      replace y2 := hCr.cell y2 id
                      have gX : xi < we.heap.size := cell_lt y0
                      have hsm := r11same_any _ _ IA IA (we.alloc (.cells #[.int .i64 IA.k, .slice r1 IA.s.length s1, .slice r2 IA.e.length s2] 25)) ((HI.out.fr hCr).fr ((Chg.refl _ _).alloc _)) (hor.ara.fr ((Chg.refl _ _).alloc _)) (by have := HSM.out; omega) (by have := HSM.out; omega)
                      rw [sameA_iff.2 rfl] at hsm
                      unfold GaveBo at hsm
                      have eii : (IE == IE) = true := by simp
                      clear hor hCr a0 a1 a2 b0 b1 b2
                      go_wp2_with fail
                      refine hsm.mono ?_
                      clear hsm
                      rintro e9 wf ⟨rfl, hCf⟩
                      go_wp2
                      go_ret
                      exact ⟨rfl, (HC.out.alloc _).tr hCf⟩
                  · have hv := hm1 hz
                    subst hv
                    have em : (mtE g A B != 0) = true := bne_iff_ne.2 hz
                    have hne : innE f g A B ≠ 0 := by
                      obtain ⟨⟨x1, h1⟩, ⟨x2, h2⟩⟩ := HV.out
                      exact inner_no h1 h2 (.inl hz)
                    rw [HIN.out.2] at hne
                    have ei : (IE != 0) = true := bne_iff_ne.2 hne
                    clear hne hz hm0 hm1
                    go_wp2
                    go_ret
                    exact ⟨rfl, HC.out.alloc _⟩
                · have e1 : ((A.s.length : Int) != 1) = false := by rw [bne_eq_false_iff_eq]; omega
                  have e2 : ((B.s.length : Int) != 1) = true := by rw [bne_iff_ne]; omega
                  clear hsA hsB
                  have hmul := HMUL.out
                  go_wp2
                  go_ret
                  exact ⟨rfl, HC.out⟩
              · have e1 : ((A.s.length : Int) != 1) = true := by rw [bne_iff_ne]; omega
                clear hsA
                have hmul := HMUL.out
                go_wp2
                go_ret
                exact ⟨rfl, HC.out⟩
          · have hiN : i = N := by omega
            have hd1 : decide (i < N) = false := decide_eq_false (by omega)
            have hd2 : decide ((i : Int) < (N : Int)) = false := decide_eq_false (by omega)
            have hxx : EO = ew := by rw [HFST.out, ← HEW.out, hiN]
            subst hxx
            have e3 : ((EO : Int) != EO) = false := by simp
            clear hlt hi hCr egf hiN
            have HHC := Lib.hid HC.out
            by_cases hsA : A.s.length = 1
            · by_cases hsB : B.s.length = 1
              · have e1 : ((A.s.length : Int) != 1) = false := by rw [bne_eq_false_iff_eq]; omega
                have e2 : ((B.s.length : Int) != 1) = false := by rw [bne_eq_false_iff_eq]; omega
                have HV := Lib.hid (And.intro (List.length_eq_one_iff.1 hsA) (List.length_eq_one_iff.1 hsB))
                clear hsA hsB
                have hin := inner_any f g _ _ A B wr HB2.out.araA HB2.out.araB (by have := HG.out; omega) (by have := HG.out; omega) HIA.out HIB.out
                unfold GaveAE at hin
                obtain ⟨IA, hIA⟩ : ∃ X, innA f g A B = X := ⟨_, rfl⟩
                obtain ⟨IE, hIE⟩ : ∃ X, innE f g A B = X := ⟨_, rfl⟩
                rw [hIA, hIE] at hin
                have HIN := Lib.hid (And.intro hIA hIE)
                clear hIA hIE
                have hmul := HMUL.out
                go_wp2_with fail
                clear hmul
                refine hin.mono ?_
                clear hin
                rintro e9 wa ⟨vi, rfl, hoi, hCi⟩
                obtain ⟨i1, k1, i2, k2, rfl, _, _⟩ := ara_new hoi
                have HI := Lib.hid hoi.ara
                clear a0 a1 a2 b0 b1 b2
                replace HB2 := Lib.hid (HB2.out.fr hCi)
                replace HC := Lib.hid (HC.out.tr hCi)
                have a0 := HB2.out.a0
                have a1 := HB2.out.a1
                have a2 := HB2.out.a2
                have b0 := HB2.out.b0
                have b1 := HB2.out.b1
                have b2 := HB2.out.b2
                clear hoi hCi
                have hmt := maptwo_any g _ _ A B (wa.alloc (.cells #[.int .i64 IA.k, .slice i1 IA.s.length k1, .slice i2 IA.e.length k2] 25)) (HB2.out.fr ((Chg.refl _ _).alloc _)).araA (HB2.out.fr ((Chg.refl _ _).alloc _)).araB (by have := HG.out; omega) (by have := HG.out; omega) HIA.out HIB.out
                unfold GaveMT at hmt
                obtain ⟨y0, y1, y2⟩ := cell_two wa (.int .i64 IA.k) (.slice i1 IA.s.length k1) (.slice i2 IA.e.length k2) 25
                obtain ⟨wb, hwb⟩ : ∃ X, wa.alloc (.cells #[.int .i64 IA.k, .slice i1 IA.s.length k1, .slice i2 IA.e.length k2] 25) = X := ⟨_, rfl⟩
                obtain ⟨xi, hxi⟩ : ∃ X, wa.heap.size = X := ⟨_, rfl⟩
                have hCb : Chg (fun _ => False) wa wb := by rw [← hwb]; exact (Chg.refl _ _).alloc _
                rw [hwb] at hmt y0 y1 y2
                rw [hxi] at y0 y1 y2
                replace HI := Lib.hid (HI.out.fr hCb)
                have HCb := Lib.hid hCb
                have HWB := Lib.hid hwb
                have HXI := Lib.hid hxi
                have gA : W.heap.size < wa.heap.size := cell_lt a0
                have gB : W.heap.size + 1 < wa.heap.size := cell_lt b0
                clear hCb hwb hxi
                go_wp2_with fail
                rw [HWB.out, HXI.out]
                clear gA gB HWB HXI
                clear a0 a1 a2 b0 b1 b2
                replace HB2 := Lib.hid (HB2.out.fr HCb.out)
                replace HC := Lib.hid (HC.out.tr HCb.out)
                have a0 := HB2.out.a0
                have a1 := HB2.out.a1
                have a2 := HB2.out.a2
                have b0 := HB2.out.b0
                have b1 := HB2.out.b1
                have b2 := HB2.out.b2
                refine hmt.mono ?_
                clear hmt
                rintro e9 wc ⟨vm, rfl, hCm, hm0, hm1⟩
                clear a0 a1 a2 b0 b1 b2
                replace HB2 := Lib.hid (HB2.out.fr hCm)
                replace HC := Lib.hid (HC.out.tr hCm)
                have a0 := HB2.out.a0
                have a1 := HB2.out.a1
                have a2 := HB2.out.a2
                have b0 := HB2.out.b0
                have b1 := HB2.out.b1
                have b2 := HB2.out.b2
                replace y0 := hCm.cell y0 id
                replace y1 := hCm.cell y1 id
                replace y2 := hCm.cell y2 id
                replace HI := Lib.hid (HI.out.fr hCm)
                clear hCm
                by_cases hz : mtE g A B = 0
                · have HZ := Lib.hid hz
                  have hm := hm0 hz
                  obtain ⟨M, hM⟩ : ∃ X : Ar, (⟨1, togL A.s B.s, vaL (mixP g A.k B.k) (prL A B (toN A B))⟩ : Ar) = X := ⟨_, rfl⟩
                  rw [hM] at hm
                  have HM := Lib.hid hM
                  obtain ⟨m1, n1, m2, n2, rfl, _, _⟩ := ara_new hm
                  have HMA := Lib.hid hm.ara
                  have em : (mtE g A B != 0) = false := by rw [hz]; rfl
                  have hbn := binary_any f
                  unfold SaidB at hbn
                  clear hz hm hM hm0 hm1
                  go_wp2_with fail
                  refine (hbn _).mono ?_
                  clear hbn
                  rintro e9 wd ⟨rfl, rfl⟩
                  cases hb : binB f with
                  | false =>
                    have hne : innE f g A B ≠ 0 := by
                      obtain ⟨⟨x1, h1⟩, ⟨x2, h2⟩⟩ := HV.out
                      exact inner_no h1 h2 (.inr hb)
                    rw [HIN.out.2] at hne
                    have ei : (IE != 0) = true := bne_iff_ne.2 hne
                    clear hne hb
                    go_wp2
                    go_ret
                    exact ⟨rfl, HC.out.alloc _⟩
                  | true =>
                    obtain ⟨⟨hq1, hq2⟩, hsm, hMl⟩ : (innE f g A B = redE f M ∧ innA f g A B = redA f M) ∧ ((redA f M).s.length ≤ 1 ∧ (redA f M).e.length ≤ 1) ∧ M.e.length ≤ 4096 := by
                      obtain ⟨⟨x1, h1⟩, ⟨x2, h2⟩⟩ := HV.out
                      obtain ⟨q1, q2⟩ := mt_is h1 h2 HZ.out (mixP g A.k B.k)
                      rw [← HM.out]
                      refine ⟨inner_is h1 h2 hb HZ.out, ?_, q2⟩
                      rw [q1]
                      exact red_small hb q2
                    rw [HIN.out.2] at hq1
                    rw [HIN.out.1] at hq2
                    rw [← hq2] at hsm
                    have hMI : ∀ x ∈ M.e, In x := by rw [← HM.out]; exact va_inn HIA.out HIB.out _
                    have hrd := reduce_any f _ M (wc.alloc (.cells #[.int .i64 M.k, .slice m1 M.s.length n1, .slice m2 M.e.length n2] 25)) (HMA.out.fr ((Chg.refl _ _).alloc _)) (by omega) hMI
                    unfold GaveAE at hrd
                    rw [← hq1, ← hq2] at hrd
                    have HSM := Lib.hid hsm
                    have hCx := (Chg.refl (fun _ => False) wc).alloc (.cells #[.int .i64 M.k, .slice m1 M.s.length n1, .slice m2 M.e.length n2] 25)
                    clear hq1 hq2 hsm hMl hMI hb
                    go_wp2_with fail
                    refine hrd.mono ?_
                    clear hrd
                    rintro e9 we ⟨vr, rfl, hor, hCr⟩
                    obtain ⟨r1, s1, r2, s2, rfl, _, _⟩ := ara_new hor
                    replace hCr := hCx.tr hCr
                    clear hCx
                    replace HC := Lib.hid (HC.out.tr hCr)
                    replace y0 := hCr.cell y0 id
                    replace y1 := hCr.cell y1 id
                    replace y2 := hCr.cell y2 id
                    have gX : xi < we.heap.size := cell_lt y0
                    have hsm := r11same_any _ _ IA IA (we.alloc (.cells #[.int .i64 IA.k, .slice r1 IA.s.length s1, .slice r2 IA.e.length s2] 25)) ((HI.out.fr hCr).fr ((Chg.refl _ _).alloc _)) (hor.ara.fr ((Chg.refl _ _).alloc _)) (by have := HSM.out; omega) (by have := HSM.out; omega)
                    rw [sameA_iff.2 rfl] at hsm
                    unfold GaveBo at hsm
                    have eii : (IE == IE) = true := by simp
                    clear hor hCr a0 a1 a2 b0 b1 b2
                    go_wp2_with fail
                    refine hsm.mono ?_
                    clear hsm
                    rintro e9 wf ⟨rfl, hCf⟩
                    go_wp2
                    go_ret
                    exact ⟨rfl, (HC.out.alloc _).tr hCf⟩
                · have hv := hm1 hz
                  subst hv
                  have em : (mtE g A B != 0) = true := bne_iff_ne.2 hz
                  have hne : innE f g A B ≠ 0 := by
                    obtain ⟨⟨x1, h1⟩, ⟨x2, h2⟩⟩ := HV.out
                    exact inner_no h1 h2 (.inl hz)
                  rw [HIN.out.2] at hne
                  have ei : (IE != 0) = true := bne_iff_ne.2 hne
                  clear hne hz hm0 hm1
                  go_wp2
                  go_ret
                  exact ⟨rfl, HC.out.alloc _⟩
              · have e1 : ((A.s.length : Int) != 1) = false := by rw [bne_eq_false_iff_eq]; omega
                have e2 : ((B.s.length : Int) != 1) = true := by rw [bne_iff_ne]; omega
                clear hsA hsB
                have hmul := HMUL.out
                go_wp2
                go_ret
                exact ⟨rfl, HC.out⟩
            · have e1 : ((A.s.length : Int) != 1) = true := by rw [bne_iff_ne]; omega
              clear hsA
              have hmul := HMUL.out
              go_wp2
              go_ret
              exact ⟨rfl, HC.out⟩
    · have e0 : (E0 != 0) = true := bne_iff_ne.2 hz
      have e1 : EO = E0 := by rw [HO.out.1 (by rw [HE0.out]; exact hz), HE0.out]
      subst e1
      have e2 : (EO != EO) = false := by simp
      clear hz hS0 hS1
      have HHC := Lib.hid HC.out
      by_cases hsA : A.s.length = 1
      · by_cases hsB : B.s.length = 1
        · have e1 : ((A.s.length : Int) != 1) = false := by rw [bne_eq_false_iff_eq]; omega
          have e2 : ((B.s.length : Int) != 1) = false := by rw [bne_eq_false_iff_eq]; omega
          have HV := Lib.hid (And.intro (List.length_eq_one_iff.1 hsA) (List.length_eq_one_iff.1 hsB))
          clear hsA hsB
          have hin := inner_any f g _ _ A B w5 HB2.out.araA HB2.out.araB (by have := HG.out; omega) (by have := HG.out; omega) HIA.out HIB.out
          unfold GaveAE at hin
          obtain ⟨IA, hIA⟩ : ∃ X, innA f g A B = X := ⟨_, rfl⟩
          obtain ⟨IE, hIE⟩ : ∃ X, innE f g A B = X := ⟨_, rfl⟩
          rw [hIA, hIE] at hin
          have HIN := Lib.hid (And.intro hIA hIE)
          clear hIA hIE
          have hmul := HMUL.out
          go_wp2_with fail
          clear hmul
          refine hin.mono ?_
          clear hin
          rintro e9 wa ⟨vi, rfl, hoi, hCi⟩
          obtain ⟨i1, k1, i2, k2, rfl, _, _⟩ := ara_new hoi
          have HI := Lib.hid hoi.ara
          clear a0 a1 a2 b0 b1 b2
          replace HB2 := Lib.hid (HB2.out.fr hCi)
          replace HC := Lib.hid (HC.out.tr hCi)
          have a0 := HB2.out.a0
          have a1 := HB2.out.a1
          have a2 := HB2.out.a2
          have b0 := HB2.out.b0
          have b1 := HB2.out.b1
          have b2 := HB2.out.b2
          clear hoi hCi
          have hmt := maptwo_any g _ _ A B (wa.alloc (.cells #[.int .i64 IA.k, .slice i1 IA.s.length k1, .slice i2 IA.e.length k2] 25)) (HB2.out.fr ((Chg.refl _ _).alloc _)).araA (HB2.out.fr ((Chg.refl _ _).alloc _)).araB (by have := HG.out; omega) (by have := HG.out; omega) HIA.out HIB.out
          unfold GaveMT at hmt
          obtain ⟨y0, y1, y2⟩ := cell_two wa (.int .i64 IA.k) (.slice i1 IA.s.length k1) (.slice i2 IA.e.length k2) 25
          obtain ⟨wb, hwb⟩ : ∃ X, wa.alloc (.cells #[.int .i64 IA.k, .slice i1 IA.s.length k1, .slice i2 IA.e.length k2] 25) = X := ⟨_, rfl⟩
          obtain ⟨xi, hxi⟩ : ∃ X, wa.heap.size = X := ⟨_, rfl⟩
          have hCb : Chg (fun _ => False) wa wb := by rw [← hwb]; exact (Chg.refl _ _).alloc _
          rw [hwb] at hmt y0 y1 y2
          rw [hxi] at y0 y1 y2
          replace HI := Lib.hid (HI.out.fr hCb)
          have HCb := Lib.hid hCb
          have HWB := Lib.hid hwb
          have HXI := Lib.hid hxi
          have gA : W.heap.size < wa.heap.size := cell_lt a0
          have gB : W.heap.size + 1 < wa.heap.size := cell_lt b0
          clear hCb hwb hxi
          go_wp2_with fail
          rw [HWB.out, HXI.out]
          clear gA gB HWB HXI
          clear a0 a1 a2 b0 b1 b2
          replace HB2 := Lib.hid (HB2.out.fr HCb.out)
          replace HC := Lib.hid (HC.out.tr HCb.out)
          have a0 := HB2.out.a0
          have a1 := HB2.out.a1
          have a2 := HB2.out.a2
          have b0 := HB2.out.b0
          have b1 := HB2.out.b1
          have b2 := HB2.out.b2
          refine hmt.mono ?_
          clear hmt
          rintro e9 wc ⟨vm, rfl, hCm, hm0, hm1⟩
          clear a0 a1 a2 b0 b1 b2
          replace HB2 := Lib.hid (HB2.out.fr hCm)
          replace HC := Lib.hid (HC.out.tr hCm)
          have a0 := HB2.out.a0
          have a1 := HB2.out.a1
          have a2 := HB2.out.a2
          have b0 := HB2.out.b0
          have b1 := HB2.out.b1
          have b2 := HB2.out.b2
          replace y0 := hCm.cell y0 id
          replace y1 := hCm.cell y1 id
          replace y2 := hCm.cell y2 id
          replace HI := Lib.hid (HI.out.fr hCm)
          clear hCm
          by_cases hz : mtE g A B = 0
          · have HZ := Lib.hid hz
            have hm := hm0 hz
            obtain ⟨M, hM⟩ : ∃ X : Ar, (⟨1, togL A.s B.s, vaL (mixP g A.k B.k) (prL A B (toN A B))⟩ : Ar) = X := ⟨_, rfl⟩
            rw [hM] at hm
            have HM := Lib.hid hM
            obtain ⟨m1, n1, m2, n2, rfl, _, _⟩ := ara_new hm
            have HMA := Lib.hid hm.ara
            have em : (mtE g A B != 0) = false := by rw [hz]; rfl
            have hbn := binary_any f
            unfold SaidB at hbn
            clear hz hm hM hm0 hm1
            go_wp2_with fail
            refine (hbn _).mono ?_
            clear hbn
            rintro e9 wd ⟨rfl, rfl⟩
            cases hb : binB f with
            | false =>
              have hne : innE f g A B ≠ 0 := by
                obtain ⟨⟨x1, h1⟩, ⟨x2, h2⟩⟩ := HV.out
                exact inner_no h1 h2 (.inr hb)
              rw [HIN.out.2] at hne
              have ei : (IE != 0) = true := bne_iff_ne.2 hne
              clear hne hb
              go_wp2
              go_ret
              exact ⟨rfl, HC.out.alloc _⟩
            | true =>
              obtain ⟨⟨hq1, hq2⟩, hsm, hMl⟩ : (innE f g A B = redE f M ∧ innA f g A B = redA f M) ∧ ((redA f M).s.length ≤ 1 ∧ (redA f M).e.length ≤ 1) ∧ M.e.length ≤ 4096 := by
                obtain ⟨⟨x1, h1⟩, ⟨x2, h2⟩⟩ := HV.out
                obtain ⟨q1, q2⟩ := mt_is h1 h2 HZ.out (mixP g A.k B.k)
                rw [← HM.out]
                refine ⟨inner_is h1 h2 hb HZ.out, ?_, q2⟩
                rw [q1]
                exact red_small hb q2
              rw [HIN.out.2] at hq1
              rw [HIN.out.1] at hq2
              rw [← hq2] at hsm
              have hMI : ∀ x ∈ M.e, In x := by rw [← HM.out]; exact va_inn HIA.out HIB.out _
              have hrd := reduce_any f _ M (wc.alloc (.cells #[.int .i64 M.k, .slice m1 M.s.length n1, .slice m2 M.e.length n2] 25)) (HMA.out.fr ((Chg.refl _ _).alloc _)) (by omega) hMI
              unfold GaveAE at hrd
              rw [← hq1, ← hq2] at hrd
              have HSM := Lib.hid hsm
              have hCx := (Chg.refl (fun _ => False) wc).alloc (.cells #[.int .i64 M.k, .slice m1 M.s.length n1, .slice m2 M.e.length n2] 25)
              clear hq1 hq2 hsm hMl hMI hb
              go_wp2_with fail
              refine hrd.mono ?_
              clear hrd
              rintro e9 we ⟨vr, rfl, hor, hCr⟩
              obtain ⟨r1, s1, r2, s2, rfl, _, _⟩ := ara_new hor
              replace hCr := hCx.tr hCr
              clear hCx
              replace HC := Lib.hid (HC.out.tr hCr)
              replace y0 := hCr.cell y0 id
              replace y1 := hCr.cell y1 id
              replace y2 := hCr.cell y2 id
              have gX : xi < we.heap.size := cell_lt y0
              have hsm := r11same_any _ _ IA IA (we.alloc (.cells #[.int .i64 IA.k, .slice r1 IA.s.length s1, .slice r2 IA.e.length s2] 25)) ((HI.out.fr hCr).fr ((Chg.refl _ _).alloc _)) (hor.ara.fr ((Chg.refl _ _).alloc _)) (by have := HSM.out; omega) (by have := HSM.out; omega)
              rw [sameA_iff.2 rfl] at hsm
              unfold GaveBo at hsm
              have eii : (IE == IE) = true := by simp
              clear hor hCr a0 a1 a2 b0 b1 b2
              go_wp2_with fail
              refine hsm.mono ?_
              clear hsm
              rintro e9 wf ⟨rfl, hCf⟩
              go_wp2
              go_ret
              exact ⟨rfl, (HC.out.alloc _).tr hCf⟩
          · have hv := hm1 hz
            subst hv
            have em : (mtE g A B != 0) = true := bne_iff_ne.2 hz
            have hne : innE f g A B ≠ 0 := by
              obtain ⟨⟨x1, h1⟩, ⟨x2, h2⟩⟩ := HV.out
              exact inner_no h1 h2 (.inl hz)
            rw [HIN.out.2] at hne
            have ei : (IE != 0) = true := bne_iff_ne.2 hne
            clear hne hz hm0 hm1
            go_wp2
            go_ret
            exact ⟨rfl, HC.out.alloc _⟩
        · have e1 : ((A.s.length : Int) != 1) = false := by rw [bne_eq_false_iff_eq]; omega
          have e2 : ((B.s.length : Int) != 1) = true := by rw [bne_iff_ne]; omega
          clear hsA hsB
          have hmul := HMUL.out
          go_wp2
          go_ret
          exact ⟨rfl, HC.out⟩
      · have e1 : ((A.s.length : Int) != 1) = true := by rw [bne_iff_ne]; omega
        clear hsA
        have hmul := HMUL.out
        go_wp2
        go_ret
        exact ⟨rfl, HC.out⟩
end Go.Proofs.Ytjmlekdgipinfaa
