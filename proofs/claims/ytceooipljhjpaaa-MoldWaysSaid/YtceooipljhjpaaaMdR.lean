/- mold: Shape, Ravel, Tally. -/
import Derived.Test.YtceooipljhjpaaaMdE
namespace Go.Proofs.Ytceooipljhjpaaa
open Go.RowKit Go.Shelf

theorem chgS_drew {S : Nat → Prop} {w w' : World} (h : Chg S w w') : Chg S w w'.drew := h.drew
theorem chgS_alloc {S : Nat → Prop} {w w' : World} {o : Obj} (h : Chg S w w') : Chg S w (w'.alloc o) := h.alloc o
theorem chgS_tr {S : Nat → Prop} {a b c : World} (h : Chg S a b) (k : Chg (fun _ => False) b c) : Chg S a c := h.trans k (fun _ _ h => h) (fun _ _ h => h.elim)
theorem chgS_set {b o : Nat} {w W : World} {v : Value} (h : Chg (fun q => q = b) w W) : Chg (fun q => q = b) w (W.setCell ⟨b, o, none⟩ v) := h.setCell (p := ⟨b, o, none⟩) (.inl rfl) v
def chkN (A : Ar) : Int := if chkB A then 0 else 110
def shpA (A : Ar) : Ar := if chkB A then ⟨1, [(A.s.length : Int)], A.s⟩ else noA
def ravA (A : Ar) : Ar := if chkB A then ⟨A.k, [(A.e.length : Int)], A.e⟩ else noA
def talA (A : Ar) : Ar := if chkB A then ⟨1, [], [A.s.headD 1]⟩ else noA
set_option maxRecDepth 100000 in
set_option maxHeartbeats 2000000 in
theorem shape_any (u : Value) (A : Ar) (w : World) (hA : Ara w u A) (hle : A.e.length ≤ 1000000) : Calls Try.prog 36 #[u] w (GaveAE w (shpA A) (chkN A)) := by
  have hA' := hA
  obtain ⟨k, t, e⟩ := A
  obtain ⟨vt, ve, rfl, ht, he⟩ := hA
  simp only at ht he hle
  obtain ⟨ta, ct, rfl, _⟩ := ht.form
  obtain ⟨ae, ce, rfl, _⟩ := he.form
  have hC0 := ((Chg.refl (fun _ => False) w).alloc (.cells #[.int .i64 k, .slice ta t.length ct, .slice ae e.length ce] 25)).alloc (.cells #[.int .i64 0, .slice none 0 0, .slice none 0 0] 25)
  have hK1 := (Chg.refl (fun _ => False) (w.alloc (.cells #[.int .i64 k, .slice ta t.length ct, .slice ae e.length ce] 25))).alloc (.cells #[.int .i64 0, .slice none 0 0, .slice none 0 0] 25)
  obtain ⟨y0, y1, y2⟩ := cell_two w (.int .i64 k) (.slice ta t.length ct) (.slice ae e.length ce) 25
  have hB0 := Bx.new (w.alloc (.cells #[.int .i64 k, .slice ta t.length ct, .slice ae e.length ce] 25)) (.int .i64 0) (.slice none 0 0) (.slice none 0 0) 25
  rw [World.size_alloc] at hB0
  replace y0 := hK1.cell y0 id
  replace y1 := hK1.cell y1 id
  replace y2 := hK1.cell y2 id
  have hck := check_any _ ⟨k, t, e⟩ _ (hA'.fr hC0) hle
  have HC := Lib.hid hC0
  have HA := Lib.hid hA'
  have HT := Lib.hid ht
  have HE := Lib.hid he
  have HLE := Lib.hid hle
  clear hA' ht he hC0 hK1 hle
  obtain ⟨i0, hi, hz0, hz1, hz2⟩ := info_parts info_long
  cases hca : chkB ⟨k, t, e⟩ with
  | false =>
    have HR := Lib.hid (show shpA ⟨k, t, e⟩ = noA ∧ chkN ⟨k, t, e⟩ = 110 by unfold shpA chkN; rw [hca]; exact ⟨rfl, rfl⟩)
    rw [show chkE ⟨k, t, e⟩ = 110 by unfold chkE; rw [hca]; rfl] at hck
    clear hca
    go_enter Try.func36, Try.ntmps36
    go_wp2_with fail
    refine hck.mono ?_
    clear hck
    rintro e9 w1 ⟨rfl, hC1⟩
    replace y0 := hC1.cell y0 id
    replace y1 := hC1.cell y1 id
    replace y2 := hC1.cell y2 id
    replace hB0 := hB0.fr hC1
    replace HC := Lib.hid (HC.out.tr hC1)
    clear hC1 y0 y1 y2
    obtain ⟨z0, z1, z2, f0, f1, f2⟩ := hB0
    have hsz : w.heap.size + 1 < w1.heap.size := cell_lt z0
    obtain ⟨⟨g0, g1⟩, g2⟩ := set3_cells (.int .i64 0) (.slice none 0 0) (.slice none 0 0) z0 z1 z2
    clear hsz
    go_wp2
    simp [bodyPost, results, Try.results36, go_sem, g0, g1, g2]
    rw [HR.out.1, HR.out.2]
    exact leaveNo (by omega) HC.out
  | true =>
    have HR := Lib.hid (show shpA ⟨k, t, e⟩ = ⟨1, [(t.length : Int)], t⟩ ∧ chkN ⟨k, t, e⟩ = 0 by unfold shpA chkN; rw [hca]; exact ⟨rfl, rfl⟩)
    rw [show chkE ⟨k, t, e⟩ = 0 by unfold chkE; rw [hca]; rfl] at hck
    have HTL := Lib.hid (show t.length ≤ 4 from (shB_iff.1 (chkB_iff.1 hca).1).1)
    clear hca
    go_enter Try.func36, Try.ntmps36
    go_wp2_with fail
    refine hck.mono ?_
    clear hck
    rintro e9 w1 ⟨rfl, hC1⟩
    replace y0 := hC1.cell y0 id
    replace y1 := hC1.cell y1 id
    replace y2 := hC1.cell y2 id
    replace hB0 := hB0.fr hC1
    replace HC := Lib.hid (HC.out.tr hC1)
    clear hC1
    have HT1 := Lib.hid (HT.out.fr HC.out)
    obtain ⟨n, hn⟩ : ∃ n, t.length = n := ⟨_, rfl⟩
    have HN := Lib.hid hn
    have hB1 := hB0
    clear hn
    go_wp2
    go_loopw [4, 14] (fun v i wr => ∃ j : Nat, j ≤ t.length ∧ i = .int .i64 j ∧ Own wr w1.heap.size 2 v (t.take j) ∧ Chg (fun _ => False) w1 wr) (fun _ i _ => t.length - (intOf i).toNat)
    case atStart => exact ⟨0, Nat.zero_le _, rfl, Own.nil _ _ _, Chg.refl _ _⟩
    case round =>
      obtain ⟨j, hj, rfl, hown, hC⟩ := hrel
      obtain ⟨aow, Lw, cw, rfl, hLw⟩ := owns_name (show World.ownsRow _ _ _ _ _ _ _ from hown)
      by_cases hlt : j < t.length
      · have hj2 : (j : Int) < (t.length : Int) := by omega
        have hkw : IntKind.i64.wrap ((j : Int) + 1) = (j : Int) + 1 := IntWalk.i64_in _ (by have := HTL.out; omega)
        obtain ⟨bb, o, cc, e1, hx⟩ := (HT1.out.fr hC).at hlt
        injection e1 with e1 e2 e3
        clear e2 e3
        subst e1
        have hnext : t.take (j + 1) = t.take j ++ [t[j]] := List.take_succ_eq_append_getElem hlt
        obtain ⟨X, hX⟩ : ∃ X, t[j] = X := ⟨_, rfl⟩
        rw [hX] at hx hnext
        have HX := Lib.hid hnext
        have HO := Lib.hid hown
        have HCW := Lib.hid hC
        clear hnext hX hown hC
        have hszw := HCW.out.size
        have hLk : Lw = j := by rw [hLw.out, List.length_take]; omega
        have HLk := Lib.hid hLk
        clear hLk
        have ONE := Lib.hid (show ∀ j u, [(.int .i64 X : Value)][j]? = some u → (wr.alloc (.cells #[.int .i64 X] 2)).cell? ((⟨wr.heap.size, 0, none⟩ : Addr).add j) = some u from fun j u hj => by
          cases j with
          | zero => cases hj; exact new_cell wr _ _ rfl
          | succ j => simp at hj)
        go_wp2_with (at_builtin; go_must (refine wpList_append_own_any rfl (.tmp 18) (.tmp 20) 23 rfl w1.heap.size 2 i0 (.int .i64 0) 1 8 Try.underlying23 hi hz0 hz1 hz2 rfl (by decide) (.slice aow Lw cw) _ _ rfl (HO.out.alloc _) (some ⟨wr.heap.size, 0, none⟩) 1 1 [.int .i64 X] rfl rfl (fun j u hu => ⟨_, rfl, ONE.out j u hu⟩) (by simp [Value.oneCell']) (by have := HTL.out; unfold maxLen; rw [List.length_take]; omega) (by have := HTL.out; rw [List.length_take]; omega) (by simp; omega) ?_); intro v2 w2 hown2 hg _ _; obtain ⟨ao2, L2, cp2, rfl, hL2⟩ := owns_name hown2)
        have hm1 : t.length - (j + 1) < t.length - j := by omega
        have HM := Lib.hid hm1
        clear hm1
        go_wp2
        go_roundw
        case rel =>
          refine ⟨j + 1, by omega, rfl, ?_, (HCW.out.alloc _).grown hg (fun q e => .inr ?_)⟩
          · rw [HX.out]
            unfold Own
            rw [List.length_append, List.map_append]
            exact hown2
          · exact (HO.out.lt _ e).1
        case measure => exact HM.out
      · have hj2 : ¬ (j : Int) < (t.length : Int) := by omega
        have hkn : j = t.length := by omega
        subst hkn
        rw [List.take_length] at hown
        have hv := avector_any _ t wr hown.ls (by have := HTL.out; omega)
        have hB2 := hB1.fr hC
        have hLB := Lib.hid hB1.lt
        have HCW := Lib.hid (HC.out.tr hC)
        have hLw2 : Lw = t.length := by rw [hLw.out, List.length_take]; omega
        subst hLw2
        clear hown hC hB1 y0 y1 y2
        go_wp2_with fail
        refine hv.mono ?_
        clear hv
        rintro e9 w4 ⟨v4, rfl, ho4, hC4⟩
        obtain ⟨a5, c5, a6, c6, hv4, q1, q2⟩ := ara_new ho4
        subst hv4
        obtain ⟨z0, z1, z2, f0, f1, f2⟩ := hB2.fr hC4
        obtain ⟨⟨g0, g1⟩, g2⟩ := set3_cells (.int .i64 1) (.slice a5 1 c5) (.slice a6 t.length c6) z0 z1 z2
        have HC4 := Lib.hid (HCW.out.tr hC4)
        have HLT := Lib.hid hB2.lt
        clear hC4 ho4 hB2
        go_wp2
        simp [bodyPost, results, Try.results36, go_sem, g0, g1, g2]
        rw [HR.out.1, HR.out.2]
        exact leaveAE q1 q2 (by omega) HLT.out HLT.out HC4.out
set_option maxRecDepth 100000 in
set_option maxHeartbeats 2000000 in
theorem ravel_any (u : Value) (A : Ar) (w : World) (hA : Ara w u A) (hle : A.e.length ≤ 1000000) : Calls Try.prog 37 #[u] w (GaveAE w (ravA A) (chkN A)) := by
  have hA' := hA
  obtain ⟨k, t, e⟩ := A
  obtain ⟨vt, ve, rfl, ht, he⟩ := hA
  simp only at ht he hle
  obtain ⟨ta, ct, rfl, _⟩ := ht.form
  obtain ⟨ae, ce, rfl, _⟩ := he.form
  have hC0 := ((Chg.refl (fun _ => False) w).alloc (.cells #[.int .i64 k, .slice ta t.length ct, .slice ae e.length ce] 25)).alloc (.cells #[.int .i64 0, .slice none 0 0, .slice none 0 0] 25)
  have hK1 := (Chg.refl (fun _ => False) (w.alloc (.cells #[.int .i64 k, .slice ta t.length ct, .slice ae e.length ce] 25))).alloc (.cells #[.int .i64 0, .slice none 0 0, .slice none 0 0] 25)
  obtain ⟨y0, y1, y2⟩ := cell_two w (.int .i64 k) (.slice ta t.length ct) (.slice ae e.length ce) 25
  have hB0 := Bx.new (w.alloc (.cells #[.int .i64 k, .slice ta t.length ct, .slice ae e.length ce] 25)) (.int .i64 0) (.slice none 0 0) (.slice none 0 0) 25
  rw [World.size_alloc] at hB0
  replace y0 := hK1.cell y0 id
  replace y1 := hK1.cell y1 id
  replace y2 := hK1.cell y2 id
  have hck := check_any _ ⟨k, t, e⟩ _ (hA'.fr hC0) hle
  have HC := Lib.hid hC0
  have HA := Lib.hid hA'
  have HT := Lib.hid ht
  have HE := Lib.hid he
  have HLE := Lib.hid hle
  clear hA' ht he hC0 hK1 hle
  cases hca : chkB ⟨k, t, e⟩ with
  | false =>
    have HR := Lib.hid (show ravA ⟨k, t, e⟩ = noA ∧ chkN ⟨k, t, e⟩ = 110 by unfold ravA chkN; rw [hca]; exact ⟨rfl, rfl⟩)
    rw [show chkE ⟨k, t, e⟩ = 110 by unfold chkE; rw [hca]; rfl] at hck
    clear hca
    go_enter Try.func37, Try.ntmps37
    go_wp2_with fail
    refine hck.mono ?_
    clear hck
    rintro e9 w1 ⟨rfl, hC1⟩
    replace y0 := hC1.cell y0 id
    replace y1 := hC1.cell y1 id
    replace y2 := hC1.cell y2 id
    replace hB0 := hB0.fr hC1
    replace HC := Lib.hid (HC.out.tr hC1)
    clear hC1 y0 y1 y2
    obtain ⟨z0, z1, z2, f0, f1, f2⟩ := hB0
    have hsz : w.heap.size + 1 < w1.heap.size := cell_lt z0
    obtain ⟨⟨g0, g1⟩, g2⟩ := set3_cells (.int .i64 0) (.slice none 0 0) (.slice none 0 0) z0 z1 z2
    clear hsz
    go_wp2
    simp [bodyPost, results, Try.results37, go_sem, g0, g1, g2]
    rw [HR.out.1, HR.out.2]
    exact leaveNo (by omega) HC.out
  | true =>
    have HR := Lib.hid (show ravA ⟨k, t, e⟩ = ⟨k, [(e.length : Int)], e⟩ ∧ chkN ⟨k, t, e⟩ = 0 by unfold ravA chkN; rw [hca]; exact ⟨rfl, rfl⟩)
    rw [show chkE ⟨k, t, e⟩ = 0 by unfold chkE; rw [hca]; rfl] at hck
    clear hca
    go_enter Try.func37, Try.ntmps37
    go_wp2_with fail
    refine hck.mono ?_
    clear hck
    rintro e9 w1 ⟨rfl, hC1⟩
    replace y0 := hC1.cell y0 id
    replace y1 := hC1.cell y1 id
    replace y2 := hC1.cell y2 id
    replace hB0 := hB0.fr hC1
    replace HC := Lib.hid (HC.out.tr hC1)
    clear hC1
    have HCL := Lib.hid (show ∀ w', Chg (fun q => q = w.heap.size + 1) w1 w' → Calls Try.prog 81 #[.slice ae e.length ce] w' (GaveL 2 w' e) from fun w' h => cloneL_any _ e w' (HE.out.fr (HC.out.trans h (fun _ _ h => h) (fun i hi e => by omega))) HLE.out)
    have hsz1 : w.heap.size + 1 < w1.heap.size := hB0.lt
    have KP := Lib.hid (show ∀ w', Chg (fun q => q = w.heap.size + 1) w1 w' → (Chg (fun q => q = w.heap.size + 1) w1 w' ∧ w'.cell? ⟨w.heap.size, 0, none⟩ = some (.int .i64 k) ∧ w'.cell? ⟨w.heap.size, 1, none⟩ = some (.slice ta t.length ct) ∧ w'.cell? ⟨w.heap.size, 2, none⟩ = some (.slice ae e.length ce)) from fun w' h => ⟨h, h.cell y0 (by simp), h.cell y1 (by simp), h.cell y2 (by simp)⟩)
    have own0 := own_lit w1.drew 3 [(e.length : Int)] 1 rfl #[.int .i64 e.length] rfl (by simp)
    go_wp2_with fail
    go_region_held3 (fun w' => Chg (fun q => q = w.heap.size + 1) w1 w' ∧ w'.cell? ⟨w.heap.size, 0, none⟩ = some (.int .i64 k) ∧ w'.cell? ⟨w.heap.size, 1, none⟩ = some (.slice ta t.length ct) ∧ w'.cell? ⟨w.heap.size, 2, none⟩ = some (.slice ae e.length ce)) ((refine KP.out _ ?_; repeat (first | (with_reducible exact Chg.refl _ _) | (with_reducible assumption) | (with_reducible refine chgS_drew ?_) | (with_reducible refine chgS_alloc ?_) | (with_reducible refine chgS_tr ?_ hC3) | (with_reducible refine chgS_set ?_)))) (first
      | (go_at_call 81
         with_reducible refine (HCL.out _ ?_).mono ?_
         · repeat (first | (with_reducible exact Chg.refl _ _) | (with_reducible refine chgS_drew ?_) | (with_reducible refine chgS_alloc ?_))
         rintro e9 w3 ⟨v3, rfl, ho3, hC3⟩
         obtain ⟨a3, c3, rfl⟩ := own_name ho3
         (first
          | have hB3 := hB0.fr (((Chg.refl _ _).drew).tr hC3)
          | have hB3 := hB0.fr ((((Chg.refl _ _).drew).alloc _).tr hC3))
         have hB4 := hB3.fr ((Chg.refl _ _).alloc (.cells #[.int .i64 e.length] 3))
         obtain ⟨z0, z1, z2, f0, f1, f2⟩ := id hB3
         obtain ⟨x0, x1, x2, m0, m1, m2⟩ := id hB4))
    all_goals
      go_wp2
      first
      | (obtain ⟨⟨g0, g1⟩, g2⟩ := set3_cells (.int .i64 k) (.slice (some ⟨w1.heap.size, 0, none⟩) 1 1) (.slice a3 e.length c3) z0 z1 z2
         simp [bodyPost, results, Try.results37, go_sem, g0, g1, g2]
         rw [HR.out.1, HR.out.2]
         exact leaveAE (own0.fr hC3) ho3 (by omega) (show w.heap.size + 1 < w1.heap.size from hsz1) (by simp; omega) (HC.out.tr ((((Chg.refl _ _).drew).alloc _).tr hC3)))
      | (obtain ⟨⟨g0, g1⟩, g2⟩ := set3_cells (.int .i64 k) (.slice (some ⟨w3.heap.size, 0, none⟩) 1 1) (.slice a3 e.length c3) x0 x1 x2
         simp [bodyPost, results, Try.results37, go_sem, g0, g1, g2]
         rw [HR.out.1, HR.out.2]
         exact leaveAE (own_lit w3 3 [(e.length : Int)] 1 rfl #[.int .i64 e.length] rfl (by simp)) (ho3.fr ((Chg.refl _ _).alloc _)) (by omega) (show w.heap.size + 1 < w3.heap.size from cell_lt z0) (show w.heap.size + 1 < w1.drew.heap.size from hsz1) ((HC.out.tr (((Chg.refl _ _).drew).tr hC3)).alloc _))
end Go.Proofs.Ytceooipljhjpaaa
