/- mold: what comes of an array by a way that hangs on a list. -/
import Derived.Test.YtceooipljhjpaaaMdE
namespace Go.Proofs.Ytceooipljhjpaaa
open Go.RowKit Go.Shelf

def mgN (W : Wy) (L A : Ar) : Int := if chkB L && chkB A then (if W.n = 0 then goN A.k W.s W.g [A] else W.n) else 110
def mgA (W : Wy) (L A : Ar) : Ar := if chkB L && chkB A then (if W.n = 0 then goA A.k W.s W.g [A] else noA) else noA
set_option maxRecDepth 100000 in
set_option maxHeartbeats 4000000 in
theorem mgone_any (gf : Nat) (eg : ∀ args w, (callFunc gf args).run Try.prog w = .ok (.enter gf args) w) (W : Wy) (u v : Value) (A B : Ar) (w : World) (hA : Ara w u A) (hB : Ara w v B) (hle : A.e.length ≤ 1000000) (hle2 : B.e.length ≤ 1000000)
    (hcall : ∀ u' v' w', Chg (fun _ => False) w w' → Ara w' u' A → Ls w' v' B.s → Calls Try.prog gf #[u', v'] w' (GaveW w' W)) (hgd : W.n = 0 → shB W.s = true ∧ (W.g.length : Int) = prodL W.s) :
    Calls Try.prog 82 #[.func (.func gf) #[] #[], u, v] w (GaveAE w (mgA W A B) (mgN W A B)) := by
  have hA' := hA
  have hB' := hB
  obtain ⟨k, t, e⟩ := A
  obtain ⟨k2, t2, e2⟩ := B
  obtain ⟨vt, ve, rfl, ht, he⟩ := hA
  obtain ⟨vt2, ve2, rfl, ht2, he2⟩ := hB
  simp only at ht he hle ht2 he2 hle2 hcall
  obtain ⟨ta, ct, rfl, _⟩ := ht.form
  obtain ⟨ae, ce, rfl, _⟩ := he.form
  obtain ⟨tb, cb, rfl, _⟩ := ht2.form
  obtain ⟨be, de, rfl, _⟩ := he2.form
  have hC0 := (((Chg.refl (fun _ => False) w).alloc (.cells #[.int .i64 k, .slice ta t.length ct, .slice ae e.length ce] 25)).alloc (.cells #[.int .i64 k2, .slice tb t2.length cb, .slice be e2.length de] 25)).alloc (.cells #[.int .i64 0, .slice none 0 0, .slice none 0 0] 25)
  have hK1 := ((Chg.refl (fun _ => False) (w.alloc (.cells #[.int .i64 k, .slice ta t.length ct, .slice ae e.length ce] 25))).alloc (.cells #[.int .i64 k2, .slice tb t2.length cb, .slice be e2.length de] 25)).alloc (.cells #[.int .i64 0, .slice none 0 0, .slice none 0 0] 25)
  have hK2 := (Chg.refl (fun _ => False) ((w.alloc (.cells #[.int .i64 k, .slice ta t.length ct, .slice ae e.length ce] 25)).alloc (.cells #[.int .i64 k2, .slice tb t2.length cb, .slice be e2.length de] 25))).alloc (.cells #[.int .i64 0, .slice none 0 0, .slice none 0 0] 25)
  obtain ⟨y0, y1, y2⟩ := cell_two w (.int .i64 k) (.slice ta t.length ct) (.slice ae e.length ce) 25
  obtain ⟨x0, x1, x2⟩ := cell_two (w.alloc (.cells #[.int .i64 k, .slice ta t.length ct, .slice ae e.length ce] 25)) (.int .i64 k2) (.slice tb t2.length cb) (.slice be e2.length de) 25
  have hB0 := Bx.new ((w.alloc (.cells #[.int .i64 k, .slice ta t.length ct, .slice ae e.length ce] 25)).alloc (.cells #[.int .i64 k2, .slice tb t2.length cb, .slice be e2.length de] 25)) (.int .i64 0) (.slice none 0 0) (.slice none 0 0) 25
  rw [World.size_alloc] at x0 x1 x2
  rw [World.size_alloc, World.size_alloc] at hB0
  replace y0 := hK1.cell y0 id
  replace y1 := hK1.cell y1 id
  replace y2 := hK1.cell y2 id
  replace x0 := hK2.cell x0 id
  replace x1 := hK2.cell x1 id
  replace x2 := hK2.cell x2 id
  clear hK1 hK2
  have hck := check_any _ ⟨k, t, e⟩ _ (hA'.fr hC0) hle
  have HCK2 := Lib.hid (show ∀ w', Chg (fun _ => False) w w' → Calls Try.prog 32 #[.agg #[.int .i64 k2, .slice tb t2.length cb, .slice be e2.length de]] w' (GaveI w' (chkE ⟨k2, t2, e2⟩)) from fun w' h => check_any _ ⟨k2, t2, e2⟩ w' (hB'.fr h) hle2)
  have HC := Lib.hid hC0
  have HT2 := Lib.hid ht2
  have HE2 := Lib.hid he2
  have HAA := Lib.hid hA'
  have HCALL := Lib.hid hcall
  have HGD := Lib.hid hgd
  clear hA' hB' ht he ht2 he2 hC0 hcall hgd
  cases hca : chkB ⟨k, t, e⟩ with
  | false =>
    have HR := Lib.hid (show mgA W ⟨k, t, e⟩ ⟨k2, t2, e2⟩ = noA ∧ mgN W ⟨k, t, e⟩ ⟨k2, t2, e2⟩ = 110 by unfold mgA mgN; rw [hca]; exact ⟨rfl, rfl⟩)
    rw [show chkE ⟨k, t, e⟩ = 110 by unfold chkE; rw [hca]; rfl] at hck
    clear hca
    go_enter Try.func82, Try.ntmps82
    go_wp2_with fail
    refine hck.mono ?_
    clear hck
    rintro e9 w1 ⟨rfl, hC1⟩
    replace y0 := hC1.cell y0 id
    replace y1 := hC1.cell y1 id
    replace y2 := hC1.cell y2 id
    replace x0 := hC1.cell x0 id
    replace x1 := hC1.cell x1 id
    replace x2 := hC1.cell x2 id
    replace hB0 := hB0.fr hC1
    replace HC := Lib.hid (HC.out.tr hC1)
    clear hC1 y0 y1 y2 x0 x1 x2
    obtain ⟨z0, z1, z2, f0, f1, f2⟩ := hB0
    have hsz : w.heap.size + 1 + 1 < w1.heap.size := cell_lt z0
    obtain ⟨⟨g0, g1⟩, g2⟩ := set3_cells (.int .i64 0) (.slice none 0 0) (.slice none 0 0) z0 z1 z2
    clear hsz
    go_wp2
    simp [bodyPost, results, Try.results82, go_sem, g0, g1, g2]
    rw [HR.out.1, HR.out.2]
    exact leaveNo (by omega) HC.out
  | true =>
    rw [show chkE ⟨k, t, e⟩ = 0 by unfold chkE; rw [hca]; rfl] at hck
    cases hcb : chkB ⟨k2, t2, e2⟩ with
    | false =>
      have HR := Lib.hid (show mgA W ⟨k, t, e⟩ ⟨k2, t2, e2⟩ = noA ∧ mgN W ⟨k, t, e⟩ ⟨k2, t2, e2⟩ = 110 by unfold mgA mgN; rw [hca, hcb]; exact ⟨rfl, rfl⟩)
      have HE0 := Lib.hid (show chkE ⟨k2, t2, e2⟩ = 110 by unfold chkE; rw [hcb]; rfl)
      clear hca hcb
      go_enter Try.func82, Try.ntmps82
      go_wp2_with fail
      refine hck.mono ?_
      clear hck
      rintro e9 w1 ⟨rfl, hC1⟩
      replace y0 := hC1.cell y0 id
      replace y1 := hC1.cell y1 id
      replace y2 := hC1.cell y2 id
      replace x0 := hC1.cell x0 id
      replace x1 := hC1.cell x1 id
      replace x2 := hC1.cell x2 id
      replace hB0 := hB0.fr hC1
      replace HC := Lib.hid (HC.out.tr hC1)
      clear hC1
      have hck2 := HCK2.out w1 HC.out
      rw [HE0.out] at hck2
      go_wp2_with fail
      refine hck2.mono ?_
      clear hck2
      rintro e9 w2 ⟨rfl, hC1⟩
      replace y0 := hC1.cell y0 id
      replace y1 := hC1.cell y1 id
      replace y2 := hC1.cell y2 id
      replace x0 := hC1.cell x0 id
      replace x1 := hC1.cell x1 id
      replace x2 := hC1.cell x2 id
      replace hB0 := hB0.fr hC1
      replace HC := Lib.hid (HC.out.tr hC1)
      clear hC1 y0 y1 y2 x0 x1 x2
      obtain ⟨z0, z1, z2, f0, f1, f2⟩ := hB0
      have hsz : w.heap.size + 1 + 1 < w2.heap.size := cell_lt z0
      obtain ⟨⟨g0, g1⟩, g2⟩ := set3_cells (.int .i64 0) (.slice none 0 0) (.slice none 0 0) z0 z1 z2
      clear hsz
      go_wp2
      simp [bodyPost, results, Try.results82, go_sem, g0, g1, g2]
      rw [HR.out.1, HR.out.2]
      exact leaveNo (by omega) HC.out
    | true =>
      have HE0 := Lib.hid (show chkE ⟨k2, t2, e2⟩ = 0 by unfold chkE; rw [hcb]; rfl)
      have HR0 := Lib.hid (show mgA W ⟨k, t, e⟩ ⟨k2, t2, e2⟩ = (if W.n = 0 then goA k2 W.s W.g [⟨k2, t2, e2⟩] else noA) ∧ mgN W ⟨k, t, e⟩ ⟨k2, t2, e2⟩ = (if W.n = 0 then goN k2 W.s W.g [⟨k2, t2, e2⟩] else W.n) by unfold mgA mgN; rw [hca, hcb]; exact ⟨rfl, rfl⟩)
      clear hca hcb
      go_enter Try.func82, Try.ntmps82
      go_wp2_with fail
      refine hck.mono ?_
      clear hck
      rintro e9 w1 ⟨rfl, hC1⟩
      replace y0 := hC1.cell y0 id
      replace y1 := hC1.cell y1 id
      replace y2 := hC1.cell y2 id
      replace x0 := hC1.cell x0 id
      replace x1 := hC1.cell x1 id
      replace x2 := hC1.cell x2 id
      replace hB0 := hB0.fr hC1
      replace HC := Lib.hid (HC.out.tr hC1)
      clear hC1
      have hck2 := HCK2.out w1 HC.out
      rw [HE0.out] at hck2
      go_wp2_with fail
      refine hck2.mono ?_
      clear hck2
      rintro e9 w2 ⟨rfl, hC1⟩
      replace y0 := hC1.cell y0 id
      replace y1 := hC1.cell y1 id
      replace y2 := hC1.cell y2 id
      replace x0 := hC1.cell x0 id
      replace x1 := hC1.cell x1 id
      replace x2 := hC1.cell x2 id
      replace hB0 := hB0.fr hC1
      replace HC := Lib.hid (HC.out.tr hC1)
      clear hC1
      have hcw := HCALL.out _ _ w2 HC.out (HAA.out.fr HC.out) (HT2.out.fr HC.out)
      unfold GaveW GaveWD at hcw
      go_wp2_with fail
      refine hcw.mono ?_
      clear hcw
      rintro e9 w3 ⟨v3, D3, rfl, hW3, hD3, hC3⟩
      replace y0 := hC3.cell y0 id
      replace y1 := hC3.cell y1 id
      replace y2 := hC3.cell y2 id
      replace x0 := hC3.cell x0 id
      replace x1 := hC3.cell x1 id
      replace x2 := hC3.cell x2 id
      replace hB0 := hB0.fr hC3
      replace HC := Lib.hid (HC.out.tr hC3)
      clear hC3
      by_cases hn : W.n = 0
      · have HN := Lib.hid hn
        obtain ⟨_, vs3, gf3, lb3, rfl, hs3, hd3, hf3⟩ := id (hW3.resolve_right (fun h => h.1 HN.out))
        obtain ⟨a3, c3, rfl, _⟩ := hs3.form
        obtain ⟨wl, hwl⟩ : ∃ wl, W.s.length = wl := ⟨_, rfl⟩
        rw [hwl, hn]
        rw [hwl] at hW3
        have HW3 := Lib.hid hW3
        clear hs3 hd3 hf3 hW3 hn hD3 hwl
        have HR := Lib.hid (show mgA W ⟨k, t, e⟩ ⟨k2, t2, e2⟩ = goA k2 W.s W.g [⟨k2, t2, e2⟩] ∧ mgN W ⟨k, t, e⟩ ⟨k2, t2, e2⟩ = goN k2 W.s W.g [⟨k2, t2, e2⟩] by rw [HR0.out.1, HR0.out.2, if_pos HN.out, if_pos HN.out]; exact ⟨rfl, rfl⟩)
        have hCn := ((Chg.refl (fun _ => False) w3).alloc (.cells #[.slice a3 wl c3, .func (.func gf3) #[] lb3] 31)).alloc (.cells #[.int .i64 k2, .slice tb t2.length cb, .slice be e2.length de] 25)
        have q2 := new_cell (w3.alloc (.cells #[.slice a3 wl c3, .func (.func gf3) #[] lb3] 31)) #[.int .i64 k2, .slice tb t2.length cb, .slice be e2.length de] 25 (i := 2) rfl
        rw [World.size_alloc] at q2
        have hgo := mgo_any _ (.slice (some ⟨w3.heap.size + 1, 0, none⟩) 1 1) k2 W.s W.g D3 [⟨k2, t2, e2⟩] _ (show WayAt _ D3 _ ⟨W.s, W.g, 0⟩ by
          have h : (⟨W.s, W.g, W.n⟩ : Wy) = W := rfl
          rw [HN.out] at h
          rw [h]
          exact HW3.out.fr hCn) (HGD.out HN.out).1 (HGD.out HN.out).2 ⟨some ⟨w3.heap.size + 1, 0, none⟩, 1, rfl, fun j hj => ⟨w3.heap.size + 1, 0, rfl, by
            have hj2 : j < 1 := hj
            obtain rfl : j = 0 := by omega
            exact ⟨_, q2, HE2.out.fr (HC.out.tr hCn)⟩⟩⟩ (fun A hA => by
            rw [List.mem_singleton] at hA
            subst hA
            exact hle2)
        have HC2 := Lib.hid (HC.out.tr hCn)
        have hB4 := hB0.fr hCn
        have hb4 : w.heap.size + 1 + 1 < ((w3.alloc (.cells #[.slice a3 wl c3, .func (.func gf3) #[] lb3] 31)).alloc (.cells #[.int .i64 k2, .slice tb t2.length cb, .slice be e2.length de] 25)).heap.size := hB4.lt
        have HB4 := Lib.hid hb4
        have hsz : w.heap.size + 1 + 1 < w3.heap.size := hB0.lt
        have hsz1 : w.heap.size + 1 < w3.heap.size := by omega
        have hsz0 : w.heap.size < w3.heap.size := by omega
        clear hb4 hB0 q2
        go_wp2_with fail
        refine hgo.mono ?_
        clear hgo hCn
        rintro e9 w4 ⟨v4, rfl, ho4, hC4⟩
        generalize goA k2 W.s W.g [⟨k2, t2, e2⟩] = AA at *
        generalize goN k2 W.s W.g [⟨k2, t2, e2⟩] = NN at *
        obtain ⟨a5, c5, a6, c6, hv4, q1, q2⟩ := ara_new ho4
        subst hv4
        obtain ⟨z0, z1, z2, f0, f1, f2⟩ := hB4.fr hC4
        obtain ⟨⟨g0, g1⟩, g2⟩ := set3_cells (.int .i64 AA.k) (.slice a5 AA.s.length c5) (.slice a6 AA.e.length c6) z0 z1 z2
        have HC4 := Lib.hid (HC2.out.tr hC4)
        clear hC4 y0 y1 y2 x0 x1 x2 ho4 hB4 hsz hsz0 hsz1
        go_wp2
        simp [bodyPost, results, Try.results82, go_sem, g0, g1, g2]
        rw [HR.out.1, HR.out.2]
        show GaveAE w ⟨AA.k, AA.s, AA.e⟩ NN _ _
        exact leaveAE q1 q2 (by omega) HB4.out HB4.out HC4.out
      · obtain ⟨_, _, _, rfl⟩ := hW3.resolve_left (fun h => hn h.1)
        have HR := Lib.hid (show mgA W ⟨k, t, e⟩ ⟨k2, t2, e2⟩ = noA ∧ mgN W ⟨k, t, e⟩ ⟨k2, t2, e2⟩ = W.n by rw [HR0.out.1, HR0.out.2, if_neg hn, if_neg hn]; exact ⟨rfl, rfl⟩)
        have b2 : (W.n != 0) = true := bne_iff_ne.2 hn
        clear hn hW3 hD3
        obtain ⟨n, hn⟩ : ∃ n, W.n = n := ⟨_, rfl⟩
        rw [hn] at b2 HR ⊢
        clear hn
        obtain ⟨z0, z1, z2, f0, f1, f2⟩ := hB0
        have hsz : w.heap.size + 1 + 1 < w3.heap.size := cell_lt z0
        have hsz1 : w.heap.size + 1 < w3.heap.size := by omega
        have hsz0 : w.heap.size < w3.heap.size := by omega
        obtain ⟨⟨g0, g1⟩, g2⟩ := set3_cells (.int .i64 0) (.slice none 0 0) (.slice none 0 0) z0 z1 z2
        replace g0 := alloc_cell g0 (.cells #[.slice none 0 0, .nilFunc] 31)
        replace g1 := alloc_cell g1 (.cells #[.slice none 0 0, .nilFunc] 31)
        replace g2 := alloc_cell g2 (.cells #[.slice none 0 0, .nilFunc] 31)
        go_wp2
        simp [bodyPost, results, Try.results82, go_sem, g0, g1, g2]
        rw [HR.out.1, HR.out.2]
        obtain ⟨v9, e9, o9, c9⟩ := leaveNo (w := w) (b := w.heap.size + 1 + 1) (n := n) (by omega) HC.out
        exact ⟨v9, e9, o9.fr ((Chg.refl _ _).alloc _), c9.alloc _⟩
end Go.Proofs.Ytceooipljhjpaaa
