/- scalar.MapTwo. -/
import Derived.Test.YtjmlekdgipinfaaSdA
namespace Go.Proofs.Ytjmlekdgipinfaa
open Go.RowKit Go.Shelf
attribute [local go_sem] Oper.semAt_some

/-- How many stand together. -/
def toN (A B : Ar) : Nat := (cntN (togL A.s B.s)).toNat
def mtE (f : Int) (A B : Ar) : Int := if binB f then (if chkB A && chkB B then (if togE A.s B.s = 0 then (if knE f A.k B.k = 0 then frE (mixP f A.k B.k) (prL A B (toN A B)) else knE f A.k B.k) else togE A.s B.s) else 110) else 2
def GaveMT (w : World) (f : Int) (A B : Ar) (e : Ending) (w' : World) : Prop := ∃ v, e = .returned (.tuple #[v, .int .i64 (mtE f A B)]) ∧ Chg (fun _ => False) w w' ∧
  (mtE f A B = 0 → OwnA w' w.heap.size v ⟨1, togL A.s B.s, vaL (mixP f A.k B.k) (prL A B (toN A B))⟩) ∧ (mtE f A B ≠ 0 → v = .agg #[.int .i64 0, .slice none 0 0, .slice none 0 0])
theorem mt_leave {W : World} {b6 : Nat} {n k : Int} {vs ve : Value} {R : Ending → World → Prop} {t : Array Value} (h6 : t[6]?.getD undef = .pointer (some ⟨b6, 0, none⟩)) (h7 : t[7]?.getD undef = .int .i64 n)
    (c0 : W.cell? ⟨b6, 0, none⟩ = some (.int .i64 k)) (c1 : W.cell? ⟨b6, 1, none⟩ = some vs) (c2 : W.cell? ⟨b6, 2, none⟩ = some ve) (h : R (.returned (.tuple #[.agg #[.int .i64 k, vs, ve], .int .i64 n])) W) :
    bodyPost Try.prog Try.f18 R .ret { tmps := t, defers := [] } W := by
  refine bodyPost_ret (v := .tuple #[.agg #[.int .i64 k, vs, ve], .int .i64 n]) ?_ rfl h
  simp [results, Try.f18, go_sem, h6, h7, c0, c1, c2]
theorem cells3 (w : World) (x0 x1 x2 : Value) (t : TypeId) : (w.alloc (.cells #[x0, x1, x2] t)).cell? ⟨w.heap.size, 0, none⟩ = some x0 ∧ (w.alloc (.cells #[x0, x1, x2] t)).cell? ⟨w.heap.size, 1, none⟩ = some x1 ∧ (w.alloc (.cells #[x0, x1, x2] t)).cell? ⟨w.heap.size, 2, none⟩ = some x2 := ⟨new_cell w _ _ rfl, new_cell w _ _ rfl, new_cell w _ _ rfl⟩
theorem tog_n {A B : Ar} (ha : chkB A = true) (hb : chkB B = true) (ht : togE A.s B.s = 0) (hla : A.e.length ≤ 1000000) (hlb : B.e.length ≤ 1000000) : cntN (togL A.s B.s) = (toN A B : Nat) ∧ toN A B ≤ 1000000 ∧ (∀ i, i < toN A B → HasAt A i) ∧ (∀ i, i < toN A B → HasAt B i) := by
  unfold chkB at ha hb
  simp only [Bool.and_eq_true, decide_eq_true_eq] at ha hb
  obtain ⟨a1, a2, _⟩ := ha
  obtain ⟨b1, b2, _⟩ := hb
  have hL : togL A.s B.s = if A.s = [] then B.s else A.s := by unfold togL; rw [if_pos ht]
  have h3 : A.s = [] ∨ B.s = [] ∨ A.s = B.s := by
    unfold togE at ht
    rw [a1, b1] at ht
    simp only [Bool.and_self, if_true] at ht
    split at ht
    · assumption
    · split at ht <;> omega
  by_cases h : A.s = []
  · have hc : cntN (togL A.s B.s) = (B.e.length : Int) := by rw [hL, if_pos h, cntN_ok b1, b2]
    have hn : toN A B = B.e.length := by unfold toN; rw [hc]; rfl
    have a3 : A.e.length = 1 := by rw [h] at a2; have : (1 : Int) = A.e.length := a2; omega
    refine ⟨by rw [hc, hn], by omega, fun i hi => .inl ⟨h, by omega⟩, fun i hi => ?_⟩
    by_cases h' : B.s = []
    · exact .inl ⟨h', by omega⟩
    · exact .inr ⟨h', by omega⟩
  · have hc : cntN (togL A.s B.s) = (A.e.length : Int) := by rw [hL, if_neg h, cntN_ok a1, a2]
    have hn : toN A B = A.e.length := by unfold toN; rw [hc]; rfl
    refine ⟨by rw [hc, hn], by omega, fun i hi => .inr ⟨h, by omega⟩, fun i hi => ?_⟩
    by_cases h' : B.s = []
    · have b3 : B.e.length = 1 := by rw [h'] at b2; have : (1 : Int) = B.e.length := b2; omega
      exact .inl ⟨h', by omega⟩
    · have h4 : A.s = B.s := by rcases h3 with h3 | h3 | h3; exact absurd h3 h; exact absurd h3 h'; exact h3
      have : (A.e.length : Int) = B.e.length := by rw [← a2, ← b2, h4]
      exact .inr ⟨h', by omega⟩
theorem el_in {A : Ar} {i : Nat} (h : HasAt A i) (hI : ∀ x ∈ A.e, In x) : In (elAt A i) := by
  unfold elAt
  rcases h with ⟨h1, h2⟩ | ⟨h1, h2⟩
  · rw [if_pos h1]; simp only [List.getD_eq_getElem?_getD, List.getElem?_eq_getElem h2, Option.getD_some]; exact hI _ (List.getElem_mem _)
  · rw [if_neg h1]; simp only [List.getD_eq_getElem?_getD, List.getElem?_eq_getElem h2, Option.getD_some]; exact hI _ (List.getElem_mem _)
set_option maxRecDepth 100000 in
set_option maxHeartbeats 4000000 in
theorem maptwo_any (f : Int) (u v : Value) (A B : Ar) (w : World) (hA : Ara w u A) (hB : Ara w v B) (hla : A.e.length ≤ 1000000) (hlb : B.e.length ≤ 1000000) (hIA : ∀ x ∈ A.e, In x) (hIB : ∀ x ∈ B.e, In x) : Calls Try.prog 18 #[.int .i64 f, u, v] w (GaveMT w f A B) := by
  have HA := Lib.hid hA
  have HB := Lib.hid hB
  obtain ⟨vs, ve, rfl, hs, he⟩ := hA
  obtain ⟨us, ue, rfl, ht, hf⟩ := hB
  obtain ⟨sa, cs, rfl, _⟩ := hs.form
  obtain ⟨ea, ce, rfl, _⟩ := he.form
  obtain ⟨ta, ct, rfl, _⟩ := ht.form
  obtain ⟨fa, cf, rfl, _⟩ := hf.form
  have HL := Lib.hid (show Ls w _ A.s ∧ Ls w _ A.e ∧ Ls w _ B.s ∧ Ls w _ B.e from ⟨hs, he, ht, hf⟩)
  have HLE := Lib.hid (And.intro hla hlb)
  have HII := Lib.hid (And.intro hIA hIB)
  clear hs he ht hf hla hlb hIA hIB
  have hbn := fun w' => binary_any f w'
  unfold SaidB at hbn
  go_enter Try.func18, Try.ntmps18
  go_wp2_with fail
  obtain ⟨v1, hv1⟩ : ∃ v, w.alloc (.cells #[.int .i64 A.k, .slice sa A.s.length cs, .slice ea A.e.length ce] 25) = v := ⟨_, rfl⟩
  obtain ⟨v2, hv2⟩ : ∃ v, v1.alloc (.cells #[.int .i64 B.k, .slice ta B.s.length ct, .slice fa B.e.length cf] 25) = v := ⟨_, rfl⟩
  obtain ⟨v3, hv3⟩ : ∃ v, v2.alloc (.cells #[.int .i64 0, .slice none 0 0, .slice none 0 0] 25) = v := ⟨_, rfl⟩
  rw [hv1, hv2, hv3]
  have z1 : v1.heap.size = w.heap.size + 1 := by rw [← hv1, World.size_alloc]
  have z2 : v2.heap.size = w.heap.size + 1 + 1 := by rw [← hv2, World.size_alloc, z1]
  have g1 : Chg (fun _ => False) w v1 := by rw [← hv1]; exact (Chg.refl _ _).alloc _
  have g2 : Chg (fun _ => False) v1 v2 := by rw [← hv2]; exact (Chg.refl _ _).alloc _
  have g3 : Chg (fun _ => False) v2 v3 := by rw [← hv3]; exact (Chg.refl _ _).alloc _
  obtain ⟨a0, a1, a2⟩ := cells3 w (.int .i64 A.k) (.slice sa A.s.length cs) (.slice ea A.e.length ce) 25
  rw [hv1] at a0 a1 a2
  obtain ⟨b0, b1, b2⟩ := cells3 v1 (.int .i64 B.k) (.slice ta B.s.length ct) (.slice fa B.e.length cf) 25
  rw [z1, hv2] at b0 b1 b2
  obtain ⟨r0, r1, r2⟩ := cells3 v2 (.int .i64 0) (.slice none 0 0) (.slice none 0 0) 25
  have fr0 := new_frozen v2 #[.int .i64 0, .slice none 0 0, .slice none 0 0] 25 0
  have fr1 := new_frozen v2 #[.int .i64 0, .slice none 0 0, .slice none 0 0] 25 1
  have fr2 := new_frozen v2 #[.int .i64 0, .slice none 0 0, .slice none 0 0] 25 2
  rw [z2, hv3] at r0 r1 r2 fr0 fr1 fr2
  replace b0 := g3.cell b0 id
  replace b1 := g3.cell b1 id
  replace b2 := g3.cell b2 id
  replace a0 := (g2.tr g3).cell a0 id
  replace a1 := (g2.tr g3).cell a1 id
  replace a2 := (g2.tr g3).cell a2 id
  have HC := Lib.hid (g1.tr (g2.tr g3))
  clear hv1 hv2 hv3 g1 g2 g3 z1 z2
  refine (hbn _).mono ?_
  clear hbn
  rintro e9 w3 ⟨rfl, rfl⟩
  cases hb : binB f with
  | false =>
    have HM := Lib.hid (show mtE f A B = 2 by unfold mtE; rw [hb]; rfl)
    go_wp2
    obtain ⟨t0, t1, t2, hS⟩ := box3 (v0 := .int .i64 0) (v1 := .slice none 0 0) (v2 := .slice none 0 0) r0 r1 r2
    exact mt_leave (b6 := w.heap.size + 1 + 1) rfl rfl t0 t1 t2 ⟨_, by rw [HM.out], HC.out.trans hS (fun _ _ h => h) (fun i hi e => by omega), fun h => absurd (HM.out.symm.trans h) (by decide), fun _ => rfl⟩
  | true =>
    have hck := check_any _ A _ (HA.out.fr HC.out) HLE.out.1
    unfold GaveI at hck
    go_wp2_with fail
    refine hck.mono ?_
    clear hck
    rintro e9 w4 ⟨rfl, hC4⟩
    replace fr0 := hC4.frozen r0 fr0 id
    replace fr1 := hC4.frozen r1 fr1 id
    replace fr2 := hC4.frozen r2 fr2 id
    replace r0 := hC4.cell r0 id
    replace r1 := hC4.cell r1 id
    replace r2 := hC4.cell r2 id
    replace a0 := hC4.cell a0 id
    replace a1 := hC4.cell a1 id
    replace a2 := hC4.cell a2 id
    replace b0 := hC4.cell b0 id
    replace b1 := hC4.cell b1 id
    replace b2 := hC4.cell b2 id
    replace HC := Lib.hid (HC.out.tr hC4)
    cases hca : chkB A with
    | false =>
      have HM := Lib.hid (show mtE f A B = 110 by unfold mtE; rw [hb, hca]; rfl)
      rw [show chkE A = 110 by unfold chkE; rw [hca]; rfl]
      clear hC4
      go_wp2
      obtain ⟨t0, t1, t2, hS⟩ := box3 (v0 := .int .i64 0) (v1 := .slice none 0 0) (v2 := .slice none 0 0) r0 r1 r2
      exact mt_leave (b6 := w.heap.size + 1 + 1) rfl rfl t0 t1 t2 ⟨_, by rw [HM.out], HC.out.trans hS (fun _ _ h => h) (fun i hi e => by omega), fun h => absurd (HM.out.symm.trans h) (by decide), fun _ => rfl⟩
    | true =>
      rw [show chkE A = 0 by unfold chkE; rw [hca]; rfl]
      have hck := check_any _ B _ (HB.out.fr HC.out) HLE.out.2
      unfold GaveI at hck
      clear hC4
      go_wp2_with fail
      refine hck.mono ?_
      clear hck
      rintro e9 w5 ⟨rfl, hC5⟩
      replace fr0 := hC5.frozen r0 fr0 id
      replace fr1 := hC5.frozen r1 fr1 id
      replace fr2 := hC5.frozen r2 fr2 id
      replace r0 := hC5.cell r0 id
      replace r1 := hC5.cell r1 id
      replace r2 := hC5.cell r2 id
      replace a0 := hC5.cell a0 id
      replace a1 := hC5.cell a1 id
      replace a2 := hC5.cell a2 id
      replace b0 := hC5.cell b0 id
      replace b1 := hC5.cell b1 id
      replace b2 := hC5.cell b2 id
      replace HC := Lib.hid (HC.out.tr hC5)
      clear hC5
      cases hcb : chkB B with
      | false =>
        have HM := Lib.hid (show mtE f A B = 110 by unfold mtE; rw [hb, hca, hcb]; rfl)
        rw [show chkE B = 110 by unfold chkE; rw [hcb]; rfl]
        go_wp2
        obtain ⟨t0, t1, t2, hS⟩ := box3 (v0 := .int .i64 0) (v1 := .slice none 0 0) (v2 := .slice none 0 0) r0 r1 r2
        exact mt_leave (b6 := w.heap.size + 1 + 1) rfl rfl t0 t1 t2 ⟨_, by rw [HM.out], HC.out.trans hS (fun _ _ h => h) (fun i hi e => by omega), fun h => absurd (HM.out.symm.trans h) (by decide), fun _ => rfl⟩
      | true =>
        rw [show chkE B = 0 by unfold chkE; rw [hcb]; rfl]
        have htg := together_any _ _ A.s B.s w5 (HL.out.1.fr HC.out) (HL.out.2.2.1.fr HC.out)
        unfold GaveSE at htg
        go_wp2_with fail
        refine htg.mono ?_
        clear htg
        rintro e9 w6 ⟨vt, rfl, hot, hC6⟩
        have HOT := Lib.hid (hot.mono (b2 := w.heap.size + 1 + 1 + 1) (cell_lt r0))
        clear hot
        obtain ⟨at_, ct_, rfl⟩ := own_name HOT.out
        replace fr0 := hC6.frozen r0 fr0 id
        replace fr1 := hC6.frozen r1 fr1 id
        replace fr2 := hC6.frozen r2 fr2 id
        replace r0 := hC6.cell r0 id
        replace r1 := hC6.cell r1 id
        replace r2 := hC6.cell r2 id
        replace a0 := hC6.cell a0 id
        replace a1 := hC6.cell a1 id
        replace a2 := hC6.cell a2 id
        replace b0 := hC6.cell b0 id
        replace b1 := hC6.cell b1 id
        replace b2 := hC6.cell b2 id
        replace HC := Lib.hid (HC.out.tr hC6)
        clear hC6
        by_cases htz : togE A.s B.s = 0
        · have hmx := mixed_any f A.k B.k w6
          unfold GaveFn at hmx
          have HTZ := Lib.hid htz
          rw [htz]
          clear htz
          go_wp2_with fail
          refine hmx.mono ?_
          clear hmx
          rintro e9 w7 ⟨vf, rfl, hf0, hfn, hC7⟩
          replace fr0 := hC7.frozen r0 fr0 id
          replace fr1 := hC7.frozen r1 fr1 id
          replace fr2 := hC7.frozen r2 fr2 id
          replace r0 := hC7.cell r0 id
          replace r1 := hC7.cell r1 id
          replace r2 := hC7.cell r2 id
          replace a0 := hC7.cell a0 id
          replace a1 := hC7.cell a1 id
          replace a2 := hC7.cell a2 id
          replace b0 := hC7.cell b0 id
          replace b1 := hC7.cell b1 id
          replace b2 := hC7.cell b2 id
          replace HC := Lib.hid (HC.out.tr hC7)
          have HOT2 := Lib.hid (HOT.out.fr hC7)
          clear hC7
          by_cases hkz : knE f A.k B.k = 0
          · have hFn := hf0 hkz
            have HKZ := Lib.hid hkz
            rw [hkz]
            obtain ⟨hn1, hn2, hn3, hn4⟩ := tog_n hca hcb HTZ.out HLE.out.1 HLE.out.2
            have hmp := mapped_any _ _ _ _ _ _ _ (toN A B) A B (mixP f A.k B.k) w7 (HOT2.out.ls) hFn (HL.out.1.fr HC.out) (HL.out.2.1.fr HC.out) (HL.out.2.2.1.fr HC.out) (HL.out.2.2.2.fr HC.out) hn1 hn2 hn3 hn4 (fun i hi => ⟨el_in (hn3 i hi) HII.out.1, el_in (hn4 i hi) HII.out.2⟩)
            unfold GaveMap at hmp
            have HM0 := Lib.hid (show mtE f A B = frE (mixP f A.k B.k) (prL A B (toN A B)) by unfold mtE; rw [hb, hca, hcb]; simp [HTZ.out, HKZ.out])
            obtain ⟨gf, lb, rfl, _⟩ := hFn
            clear hf0 hfn hkz hn1 hn2 hn3 hn4
            go_wp2_with fail
            refine hmp.mono ?_
            clear hmp
            rintro e9 w8 ⟨k, xs, ys, rfl, hC8, h0, h1⟩
            have hsz : w.heap.size + 1 + 1 + 1 ≤ w7.heap.size := cell_lt r0
            replace fr0 := hC8.frozen r0 fr0 id
            replace fr1 := hC8.frozen r1 fr1 id
            replace fr2 := hC8.frozen r2 fr2 id
            replace r0 := hC8.cell r0 id
            replace r1 := hC8.cell r1 id
            replace r2 := hC8.cell r2 id
            replace a0 := hC8.cell a0 id
            replace a1 := hC8.cell a1 id
            replace a2 := hC8.cell a2 id
            replace b0 := hC8.cell b0 id
            replace b1 := hC8.cell b1 id
            replace b2 := hC8.cell b2 id
            replace HC := Lib.hid (HC.out.tr hC8)
            by_cases hfz : frE (mixP f A.k B.k) (prL A B (toN A B)) = 0
            · obtain ⟨rfl, rfl, ho⟩ := h0 hfz
              have HO := Lib.hid (ho.mono hsz)
              have HOT3 := Lib.hid (HOT2.out.fr hC8)
              obtain ⟨ao, co, rfl⟩ := own_name ho
              have HFZ := Lib.hid hfz
              rw [hfz]
              clear h0 h1 hfz ho hC8
              go_wp2
              obtain ⟨t0, t1, t2, hS⟩ := box3 (v0 := .int .i64 1) (v1 := .slice at_ (togL A.s B.s).length ct_) (v2 := .slice ao (vaL (mixP f A.k B.k) (prL A B (toN A B))).length co) r0 r1 r2
              exact mt_leave (b6 := w.heap.size + 1 + 1) rfl rfl t0 t1 t2 ⟨_, by rw [HM0.out, HFZ.out], HC.out.trans hS (fun _ _ h => h) (fun i hi e => by omega), fun _ => ⟨_, _, rfl, (own_set3 HOT3.out (by omega) _ _ _).mono (by omega), (own_set3 HO.out (by omega) _ _ _).mono (by omega)⟩, fun h => absurd (HM0.out.trans HFZ.out) h⟩
            · obtain ⟨rfl, rfl, rfl⟩ := h1 hfz
              have HM := Lib.hid (show mtE f A B = frE (mixP f A.k B.k) (prL A B (toN A B)) from HM0.out)
              have HFZ := Lib.hid hfz
              clear h0 h1 hfz hC8
              go_wp2
              obtain ⟨t0, t1, t2, hS⟩ := box3 (v0 := .int .i64 0) (v1 := .slice none 0 0) (v2 := .slice none 0 0) r0 r1 r2
              exact mt_leave (b6 := w.heap.size + 1 + 1) rfl rfl t0 t1 t2 ⟨_, by rw [HM.out], HC.out.trans hS (fun _ _ h => h) (fun i hi e => by omega), fun h => absurd (HM.out.symm.trans h) (by exact HFZ.out), fun _ => rfl⟩
          · obtain rfl := hfn hkz
            have ek : (knE f A.k B.k == 0) = false := beq_eq_false_iff_ne.2 hkz
            have HM := Lib.hid (show mtE f A B = knE f A.k B.k by unfold mtE; rw [hb, hca, hcb]; simp [HTZ.out, hkz])
            have HKZ := Lib.hid hkz
            clear hf0 hfn hkz
            go_wp2
            obtain ⟨t0, t1, t2, hS⟩ := box3 (v0 := .int .i64 0) (v1 := .slice none 0 0) (v2 := .slice none 0 0) r0 r1 r2
            exact mt_leave (b6 := w.heap.size + 1 + 1) rfl rfl t0 t1 t2 ⟨_, by rw [HM.out], HC.out.trans hS (fun _ _ h => h) (fun i hi e => by omega), fun h => absurd (HM.out.symm.trans h) (by exact HKZ.out), fun _ => rfl⟩
        · have et : (togE A.s B.s == 0) = false := beq_eq_false_iff_ne.2 htz
          have HM := Lib.hid (show mtE f A B = togE A.s B.s by unfold mtE; rw [hb, hca, hcb]; simp [htz])
          have HTZ := Lib.hid htz
          clear htz
          go_wp2
          obtain ⟨t0, t1, t2, hS⟩ := box3 (v0 := .int .i64 0) (v1 := .slice none 0 0) (v2 := .slice none 0 0) r0 r1 r2
          exact mt_leave (b6 := w.heap.size + 1 + 1) rfl rfl t0 t1 t2 ⟨_, by rw [HM.out], HC.out.trans hS (fun _ _ h => h) (fun i hi e => by omega), fun h => absurd (HM.out.symm.trans h) (by exact HTZ.out), fun _ => rfl⟩
end Go.Proofs.Ytjmlekdgipinfaa
