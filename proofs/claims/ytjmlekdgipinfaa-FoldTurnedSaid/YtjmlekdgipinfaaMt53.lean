/- FoldTurned: the walk. -/
import Derived.Test.YtjmlekdgipinfaaMt51
import Derived.Deep.Cut
import Derived.Test.YtjmlekdgipinfaaMt39
import Derived.Test.YtjmlekdgipinfaaMt52
namespace Go.Proofs.Ytjmlekdgipinfaa
open Go.RowKit Go.Shelf

abbrev True_ := @Tru16
/-- An array in the box p. -/
structure Bx1 (w : World) (p : Nat) (sa ea : Option Addr) (cs ce : Nat) (A : Ar) : Prop where
  a0 : w.cell? ⟨p, 0, none⟩ = some (.int .i64 A.k)
  a1 : w.cell? ⟨p, 1, none⟩ = some (.slice sa A.s.length cs)
  a2 : w.cell? ⟨p, 2, none⟩ = some (.slice ea A.e.length ce)
  ls : Ls w (.slice sa A.s.length cs) A.s ∧ Ls w (.slice ea A.e.length ce) A.e
theorem Bx1.fr {w w' : World} {p : Nat} {sa ea : Option Addr} {cs ce : Nat} {A : Ar} (h : Bx1 w p sa ea cs ce A) (hC : Chg (fun _ => False) w w') : Bx1 w' p sa ea cs ce A :=
  ⟨hC.cell h.a0 id, hC.cell h.a1 id, hC.cell h.a2 id, h.ls.1.fr hC, h.ls.2.fr hC⟩
theorem Bx1.ara {w : World} {p : Nat} {sa ea : Option Addr} {cs ce : Nat} {A : Ar} (h : Bx1 w p sa ea cs ce A) : Ara w (.agg #[.int .i64 A.k, .slice sa A.s.length cs, .slice ea A.e.length ce]) A := ⟨_, _, rfl, h.ls.1, h.ls.2⟩
theorem Bx1.new {w : World} {sa ea : Option Addr} {cs ce : Nat} {A : Ar} (t : TypeId) (h1 : Ls w (.slice sa A.s.length cs) A.s) (h2 : Ls w (.slice ea A.e.length ce) A.e) : Bx1 (w.alloc (.cells #[.int .i64 A.k, .slice sa A.s.length cs, .slice ea A.e.length ce] t)) w.heap.size sa ea cs ce A := by
  obtain ⟨a0, a1, a2⟩ := cell_two w (.int .i64 A.k) (.slice sa A.s.length cs) (.slice ea A.e.length ce) t
  exact ⟨a0, a1, a2, h1.fr ((Chg.refl _ _).alloc _), h2.fr ((Chg.refl _ _).alloc _)⟩
set_option maxRecDepth 100000 in
set_option maxHeartbeats 2000000 in
theorem foldTurned_walk (vl : Value) (l : List Int) (vm : Value) (m : List Int) (n : Int) (W : World) (h1 : Oklongs W vl l) (h2 : Oklongs W vm m) (hn : (Lit.int .u8 n).wf = true) : Calls Try.prog 10 #[vl, vm, .int .u8 n] W (True_ W) := by
  have hn' := wf_u8' hn
  have hal := alive_any
  have hL := h1.1
  have hM := h2.1
  have HI1 := Lib.hid (show ∀ x ∈ l, In x from h1.2)
  have HI2 := Lib.hid (show ∀ x ∈ m, In x from h2.2)
  clear h1 h2 hn
  obtain ⟨la, cl, rfl, _⟩ := hL.form
  obtain ⟨ma, cm, rfl, _⟩ := hM.form
  have HL := Lib.hid hL
  have HM := Lib.hid hM
  obtain ⟨nl, hnl⟩ : ∃ k, l.length = k := ⟨_, rfl⟩
  obtain ⟨nm, hnm⟩ : ∃ k, m.length = k := ⟨_, rfl⟩
  have HNL := Lib.hid hnl
  have HNM := Lib.hid hnm
  rw [hnl, hnm]
  rw [hnl] at HL
  rw [hnm] at HM
  clear hL hM hnl hnm
  by_cases hA : 60 < nl
  · have d1 : decide ((60 : Int) < (nl : Int)) = true := decide_eq_true (by omega)
    have d2 : decide (60 < nl) = true := decide_eq_true hA
    go_enter Try.func10, Try.ntmps10
    go_wp2_with fail
    refine (hal _).mono ?_
    clear hal
    rintro e9 w1 ⟨rfl, hC1⟩
    go_wp2
    go_ret
    exact ⟨rfl, hC1⟩
  · have d1 : decide ((60 : Int) < (nl : Int)) = false := decide_eq_false (by omega)
    have d2 : decide (60 < nl) = false := decide_eq_false hA
    by_cases hB : 60 < nm
    · have d3 : decide ((60 : Int) < (nm : Int)) = true := decide_eq_true (by omega)
      have d4 : decide (60 < nm) = true := decide_eq_true hB
      go_enter Try.func10, Try.ntmps10
      go_wp2_with fail
      refine (hal _).mono ?_
      clear hal
      rintro e9 w1 ⟨rfl, hC1⟩
      go_wp2
      go_ret
      exact ⟨rfl, hC1⟩
    · have d3 : decide ((60 : Int) < (nm : Int)) = false := decide_eq_false (by omega)
      have d4 : decide (60 < nm) = false := decide_eq_false hB
      have HG := Lib.hid (show l.length ≤ 60 ∧ m.length ≤ 60 from ⟨by have := HNL.out; omega, by have := HNM.out; omega⟩)
      obtain ⟨k, hk⟩ := Int.eq_ofNat_of_zero_le (show 0 ≤ n % 6 by omega)
      have hk6 : k < 6 := by omega
      obtain ⟨F, hF⟩ : ∃ F, ([1, 3, 6, 7, 9, 10] : List Int).getD k 0 = F := ⟨_, rfl⟩
      have HF := Lib.hid (show comB F by
        rw [← hF]
        rcases (show k = 0 ∨ k = 1 ∨ k = 2 ∨ k = 3 ∨ k = 4 ∨ k = 5 by omega) with rfl | rfl | rfl | rfl | rfl | rfl <;> simp [comB])
      have HCELL := Lib.hid (show ∀ w : World, (w.alloc (.cells #[.int .i64 1, .int .i64 3, .int .i64 6, .int .i64 7, .int .i64 9, .int .i64 10] 3)).cell? ⟨w.heap.size, k, none⟩ = some (.int .i64 F) from fun w => by
        rw [← hF]
        rcases (show k = 0 ∨ k = 1 ∨ k = 2 ∨ k = 3 ∨ k = 4 ∨ k = 5 by omega) with rfl | rfl | rfl | rfl | rfl | rfl <;> exact new_cell _ _ _ rfl)
      have w1' : IntKind.i64.wrap n = n := IntWalk.i64_in _ (by omega)
      have w2' : Int.tmod n 6 = (k : Int) := by rw [Int.tmod_eq_emod_of_nonneg hn'.1]; exact hk
      have w3' : IntKind.i64.wrap (k : Int) = (k : Int) := IntWalk.i64_in _ (by omega)
      have q0 : (0 : Int) ≤ (k : Int) := by omega
      have q1 : (k : Int) < 6 := by omega
      have HV1 := Lib.hid (show ∀ w', Chg (fun _ => False) W w' → Calls Try.prog 26 #[.slice la nl cl] w' (GaveA w' (vcA l)) from fun w' h => avector_any _ l w' (HL.out.fr h) (by have := HG.out; omega))
      have HV2 := Lib.hid (show ∀ w', Chg (fun _ => False) W w' → Calls Try.prog 26 #[.slice ma nm cm] w' (GaveA w' (vcA m)) from fun w' h => avector_any _ m w' (HM.out.fr h) (by have := HG.out; omega))
      unfold GaveA at HV1 HV2
      have HO1 := Lib.hid (show ∀ w' u v, Ara w' u (vcA l) → Ara w' v (vcA m) → Calls Try.prog 13 #[.int .i64 F, u, v] w' (GaveAE w' (outA F (vcA l) (vcA m)) (outE F (vcA l) (vcA m))) from fun w' u v hu hv => outer_any F u v _ _ w' hu hv (by show l.length ≤ _; have := HG.out; omega) (by show m.length ≤ _; have := HG.out; omega) HI1.out HI2.out)
      have HO2 := Lib.hid (show ∀ w' u v, Ara w' u (vcA m) → Ara w' v (vcA l) → Calls Try.prog 13 #[.int .i64 F, u, v] w' (GaveAE w' (outA F (vcA m) (vcA l)) (outE F (vcA m) (vcA l))) from fun w' u v hu hv => outer_any F u v _ _ w' hu hv (by show m.length ≤ _; have := HG.out; omega) (by show l.length ≤ _; have := HG.out; omega) HI2.out HI1.out)
      have HER := Lib.hid (out_errs (l := l) (m := m) HF.out HG.out.1 HG.out.2)
      have HTU := Lib.hid (fun h => turned (l := l) (m := m) HF.out HG.out.1 HG.out.2 h)
      have HL1 := Lib.hid (show outE F (vcA l) (vcA m) = 0 → (outA F (vcA l) (vcA m)).s.length ≤ 1000000 ∧ (outA F (vcA l) (vcA m)).e.length ≤ 1000000 from fun h => by
        rw [(vec_out HF.out HG.out.1 HG.out.2).2 h]
        have : l.length * m.length ≤ 60 * 60 := Nat.mul_le_mul HG.out.1 HG.out.2
        simp only [tabV_length, List.length_cons, List.length_nil]
        omega)
      have HL2 := Lib.hid (show outE F (vcA m) (vcA l) = 0 → (outA F (vcA m) (vcA l)).s.length ≤ 1000000 ∧ (outA F (vcA m) (vcA l)).e.length ≤ 1000000 from fun h => by
        rw [(vec_out HF.out HG.out.2 HG.out.1).2 h]
        have : m.length * l.length ≤ 60 * 60 := Nat.mul_le_mul HG.out.2 HG.out.1
        simp only [tabV_length, List.length_cons, List.length_nil]
        omega)
      generalize outE F (vcA l) (vcA m) = E1 at *
      generalize outE F (vcA m) (vcA l) = E2 at *
      have HTR := Lib.hid (show E1 = 0 → ∀ w' u, Ara w' u (outA F (vcA l) (vcA m)) → Calls Try.prog 44 #[u] w' (GaveAE w' (outA F (vcA m) (vcA l)) 0) from fun h w' u hu => by
        have h9 := ttra_any u _ w' hu (HL1.out h).1 (HL1.out h).2
        rw [(HTU.out h).1, (HTU.out h).2] at h9
        exact h9)
      clear HTU
      generalize outA F (vcA l) (vcA m) = A1 at *
      generalize outA F (vcA m) (vcA l) = A2 at *
      unfold GaveAE at HO1 HO2 HTR
      clear hF hk hk6 hn' hA hB
      go_enter Try.func10, Try.ntmps10
      go_wp2_with fail
      refine (hal _).mono ?_
      clear hal
      rintro e9 w1 ⟨rfl, hC1⟩
      have hcell := HCELL.out w1
      have HC := Lib.hid (hC1.alloc (.cells #[.int .i64 1, .int .i64 3, .int .i64 6, .int .i64 7, .int .i64 9, .int .i64 10] 3))
      clear hC1
      go_wp2_with fail
      refine (HV1.out _ HC.out).mono ?_
      clear hcell
      rintro e9 w2 ⟨v2, rfl, ho2, hC2⟩
      obtain ⟨a1, c1, a2, c2, rfl, _, _⟩ := ara_new ho2
      replace HC := Lib.hid (HC.out.tr hC2)
      have HA2 := Lib.hid ho2.ara
      clear ho2 hC2
      go_wp2_with fail
      refine (HV2.out _ HC.out).mono ?_
      rintro e9 w3 ⟨v3, rfl, ho3, hC3⟩
      obtain ⟨a3, c3, a4, c4, rfl, _, _⟩ := ara_new ho3
      replace HC := Lib.hid (HC.out.tr hC3)
      have hou := HO1.out _ _ _ (HA2.out.fr hC3) ho3.ara
      clear ho3 hC3
      go_wp2_with fail
      refine hou.mono ?_
      clear hou
      rintro e9 w4 ⟨v4, rfl, ho4, hC4⟩
      obtain ⟨b1, e1, b2, e2, rfl, hw1, hw2⟩ := ara_new ho4
      have HBA := Lib.hid (Bx1.new (A := A1) 25 hw1.ls hw2.ls)
      replace HC := Lib.hid ((HC.out.tr hC4).alloc (.cells #[.int .i64 A1.k, .slice b1 A1.s.length e1, .slice b2 A1.e.length e2] 25))
      clear ho4 hC4 hw1 hw2
      go_wp2_with fail
      refine (HV2.out _ HC.out).mono ?_
      rintro e9 w5 ⟨v5, rfl, ho5, hC5⟩
      obtain ⟨a5, c5, a6, c6, rfl, _, _⟩ := ara_new ho5
      replace HC := Lib.hid (HC.out.tr hC5)
      replace HBA := Lib.hid (HBA.out.fr hC5)
      have HA5 := Lib.hid ho5.ara
      clear ho5 hC5
      go_wp2_with fail
      refine (HV1.out _ HC.out).mono ?_
      rintro e9 w6 ⟨v6, rfl, ho6, hC6⟩
      obtain ⟨a7, c7, a8, c8, rfl, _, _⟩ := ara_new ho6
      replace HC := Lib.hid (HC.out.tr hC6)
      replace HBA := Lib.hid (HBA.out.fr hC6)
      have hou := HO2.out _ _ _ (HA5.out.fr hC6) ho6.ara
      clear ho6 hC6
      go_wp2_with fail
      refine hou.mono ?_
      clear hou
      rintro e9 w7 ⟨v7, rfl, ho7, hC7⟩
      obtain ⟨b3, e3, b4, e4, rfl, hw1, hw2⟩ := ara_new ho7
      have HBB := Lib.hid (Bx1.new (A := A2) 25 hw1.ls hw2.ls)
      have hCa := hC7.alloc (.cells #[.int .i64 A2.k, .slice b3 A2.s.length e3, .slice b4 A2.e.length e4] 25)
      replace HC := Lib.hid (HC.out.tr hCa)
      replace HBA := Lib.hid (HBA.out.fr hCa)
      clear ho7 hC7 hw1 hw2 hCa
      rcases HER.out with ⟨rfl, rfl⟩ | ⟨rfl, rfl⟩
      · have htr := HTR.out (by first | rfl | trivial) _ _ HBA.out.ara
        have m0 := HBA.out.a0
        have m1 := HBA.out.a1
        have m2 := HBA.out.a2
        go_wp2_with fail
        refine htr.mono ?_
        clear htr m0 m1 m2
        rintro e9 w8 ⟨v8, rfl, ho8, hC8⟩
        obtain ⟨b5, e5, b6, e6, rfl, hw1, hw2⟩ := ara_new ho8
        have HBT := Lib.hid (Bx1.new (A := A2) 25 hw1.ls hw2.ls)
        have hCa := hC8.alloc (.cells #[.int .i64 A2.k, .slice b5 A2.s.length e5, .slice b6 A2.e.length e6] 25)
        replace HC := Lib.hid (HC.out.tr hCa)
        replace HBB := Lib.hid (HBB.out.fr hCa)
        clear ho8 hC8 hw1 hw2 hCa
        have his := is_any _ _ A2 A2 0 _ HBT.out.ara HBB.out.ara (HL2.out (by first | rfl | trivial)).2 (HL2.out (by first | rfl | trivial)).1
        rw [show isB A2 0 A2 = true from isB_iff.2 ⟨rfl, rfl⟩] at his
        unfold GaveBo at his
        have m0 := HBT.out.a0
        have m1 := HBT.out.a1
        have m2 := HBT.out.a2
        have n0 := HBB.out.a0
        have n1 := HBB.out.a1
        have n2 := HBB.out.a2
        go_wp2_with fail
        refine his.mono ?_
        clear his m0 m1 m2 n0 n1 n2
        rintro e9 w9 ⟨rfl, hC9⟩
        go_wp2
        go_ret
        exact ⟨rfl, HC.out.tr hC9⟩
      · go_wp2
        go_ret
        exact ⟨rfl, HC.out⟩
end Go.Proofs.Ytjmlekdgipinfaa
