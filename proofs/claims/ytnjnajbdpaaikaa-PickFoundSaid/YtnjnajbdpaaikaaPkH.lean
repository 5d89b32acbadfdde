/- pick: grade, walked. -/
import Derived.Test.YtnjnajbdpaaikaaPkG
namespace Go.Proofs.Ytnjnajbdpaaikaa
open Go.RowKit Go.Shelf

theorem own_cases {w : World} {base t : Nat} {v : Value} {xs : List Int} (h : Own w base t v xs) : (v = .slice none 0 0 ∧ xs = []) ∨ ∃ g c, v = .slice (some ⟨g, 0, none⟩) xs.length c ∧ base ≤ g ∧ g < w.heap.size := by
  rcases h.2 with ⟨rfl, h2⟩ | ⟨g, cap, cur, rfl, hb, hgg, r⟩
  · exact .inl ⟨rfl, List.eq_nil_of_length_eq_zero h2⟩
  · exact .inr ⟨g, cap, rfl, hb, (Array.getElem?_eq_some_iff.1 hgg).1⟩
theorem insert_nil (f : Fn) (pb lb : Array Value) (w : World) : Calls Try.prog 98 #[.slice none 0 0, .int .i64 0, .int .i64 0, .func f pb lb] w (fun e w' => e = .returned (.tuple #[]) ∧ w' = w) := by
  go_enter Try.func98, Try.ntmps98
  go_wp2
  refine wp_loop_rounds 1 ?_
  rw [rounds_succ]
  go_wp2
  go_end0
  exact ⟨rfl, rfl⟩
theorem stable_nil (f : Fn) (pb lb : Array Value) (w : World) : Calls Try.prog 89 #[.slice none 0 0, .int .i64 0, .func f pb lb] w (fun e w' => e = .returned (.tuple #[]) ∧ w' = w) := by
  have h1 := insert_nil f pb lb
  go_enter Try.func89, Try.ntmps89
  go_wp2
  refine wp_loop_rounds 1 ?_
  rw [rounds_succ]
  go_wp2_with fail
  refine (h1 _).mono ?_
  rintro e9 w1 ⟨rfl, rfl⟩
  go_wp2
  refine wp_loop_rounds 1 ?_
  rw [rounds_succ]
  go_wp2
  go_end0
  exact ⟨rfl, rfl⟩
theorem sortStable_nil (f : Fn) (pb lb : Array Value) (w : World) : Calls Try.prog 56 #[.slice none 0 0, .func f pb lb] w (fun e w' => e = .returned (.tuple #[]) ∧ w' = w) := by
  have h1 := stable_nil f pb lb
  go_enter Try.func56, Try.ntmps56
  go_wp2_with fail
  refine (h1 _).mono ?_
  rintro e9 w1 ⟨rfl, rfl⟩
  go_wp2
  go_end0
  exact ⟨rfl, rfl⟩
theorem mkL_iota (n : Nat) : mkL n (fun i => (i : Int) + 1) = iotaS 0 n := by
  unfold mkL iotaS
  rw [List.range_eq_range']
def GaveGr (w : World) (A : Ar) (down : Bool) (e : Ending) (w' : World) : Prop := ∃ Z, (vecE A = 0 → OkS (keyK A.e down) 0 Z ∧ Z.length = A.e.length) ∧ GaveAE w (if vecE A = 0 then ⟨1, A.s, Z⟩ else noA) (vecE A) e w'
theorem enters_grade1 : ∀ args w, (callFunc 54 args).run Try.prog w = .ok (.enter 54 args) w := enters_of Try.func54 (by kernel_rfl) rfl
theorem gr_leave {w W : World} {A : Ar} {down : Bool} {Z : List Int} {b b1 b2 : Nat} {vs ve : Value} (h0 : vecE A = 0) (hZ : OkS (keyK A.e down) 0 Z) (hl : Z.length = A.e.length) (h1 : Own W b1 3 vs A.s) (h2 : Own W b2 2 ve Z) (hb : w.heap.size ≤ b) (hb1 : b < b1) (hb2 : b < b2) (hC : Chg (fun _ => False) w W) :
    GaveGr w A down (.returned (.tuple #[.agg #[.int .i64 1, vs, ve], .int .i64 0])) (((W.setCell ⟨b, 0, none⟩ (.int .i64 1)).setCell ⟨b, 1, none⟩ vs).setCell ⟨b, 2, none⟩ ve) := by
  refine ⟨Z, fun _ => ⟨hZ, hl⟩, ?_⟩
  rw [if_pos h0, h0]
  exact leaveAE h1 h2 hb hb1 hb2 hC
theorem gr_no {w W : World} {A : Ar} {down : Bool} {b : Nat} {n : Int} (h : vecE A = n) (hn : n ≠ 0) (hb : w.heap.size ≤ b) (hC : Chg (fun _ => False) w W) :
    GaveGr w A down (.returned (.tuple #[.agg #[.int .i64 0, .slice none 0 0, .slice none 0 0], .int .i64 n])) (((W.setCell ⟨b, 0, none⟩ (.int .i64 0)).setCell ⟨b, 1, none⟩ (.slice none 0 0)).setCell ⟨b, 2, none⟩ (.slice none 0 0)) := by
  refine ⟨[], fun e => absurd (h.symm.trans e) hn, ?_⟩
  rw [if_neg (by rw [h]; exact hn), h]
  exact leaveNo hb hC
theorem own_apart {w : World} {b1 b2 t1 t2 : Nat} {v1 v2 : Value} {xs ys : List Int} (h1 : Own w b1 t1 v1 xs) (h2 : Own w b2 t2 v2 ys) (hne : t1 ≠ t2) : ∀ q, v1.ownBlock = some q → ¬ v2.ownBlock = some q := by
  intro q hq hq2
  rcases h1.2 with ⟨rfl, _⟩ | ⟨g, cap, cur, rfl, _, hg, _⟩
  · simp [Value.ownBlock] at hq
  · rcases h2.2 with ⟨rfl, _⟩ | ⟨g', cap', cur', rfl, _, hg', _⟩
    · simp [Value.ownBlock] at hq2
    · have e1 : g = q := by simpa [Value.ownBlock] using hq
      have e2 : g' = q := by simpa [Value.ownBlock] using hq2
      subst e1
      subst e2
      rw [hg] at hg'
      cases hg'
      exact hne rfl
theorem cmp_off {w W : World} {ao : Option Addr} {c g : Nat} {xs : List Int} (down : Bool) (h : Ls w (.slice ao xs.length c) xs) (hC : Chg (fun _ => False) w W) (hg : w.heap.size ≤ g) :
    CmpAt W g 55 (.agg #[.slice ao xs.length c, .bool down]) (keyK xs down) (InP xs.length) := by
  by_cases h0 : xs.length = 0
  · exact ⟨enters_cmp, fun x y hx _ => by unfold InP at hx; omega⟩
  · refine cmpAt_of down (h.fr hC) (fun k hk => ?_)
    obtain ⟨bb, oo, cc, e1, e2⟩ := h.at (j := 0) (by omega)
    injection e1 with e1
    subst e1
    have : bb = k := by simpa [Value.ownBlock] using hk
    subst this
    have hlt := cell_lt e2
    simp only at hlt
    omega
set_option maxRecDepth 100000 in
set_option maxHeartbeats 2000000 in
theorem grade_any (u : Value) (A : Ar) (down : Bool) (w : World) (hA : Ara w u A) (hl : A.e.length ≤ 1000000) : Calls Try.prog 28 #[u, .bool down] w (GaveGr w A down) := by
  have hA' := hA
  obtain ⟨vs, ve, rfl, hs, he⟩ := hA
  obtain ⟨sa, cs, rfl, _⟩ := hs.form
  obtain ⟨ae, ce, rfl, hcc, hcm, hna⟩ := he.form
  have hC0 := ((Chg.refl (fun _ => False) w).alloc (.cells #[.int .i64 A.k, .slice sa A.s.length cs, .slice ae A.e.length ce] 25)).alloc (.cells #[.int .i64 0, .slice none 0 0, .slice none 0 0] 25)
  have hK1 := (Chg.refl (fun _ => False) (w.alloc (.cells #[.int .i64 A.k, .slice sa A.s.length cs, .slice ae A.e.length ce] 25))).alloc (.cells #[.int .i64 0, .slice none 0 0, .slice none 0 0] 25)
  obtain ⟨y0, y1, y2⟩ := cell_two w (.int .i64 A.k) (.slice sa A.s.length cs) (.slice ae A.e.length ce) 25
  have hB0 := Bx.new (w.alloc (.cells #[.int .i64 A.k, .slice sa A.s.length cs, .slice ae A.e.length ce] 25)) (.int .i64 0) (.slice none 0 0) (.slice none 0 0) 25
  rw [World.size_alloc] at hB0
  replace y0 := hK1.cell y0 id
  replace y1 := hK1.cell y1 id
  replace y2 := hK1.cell y2 id
  have hve := vector_any _ A _ (hA'.fr hC0) hl
  unfold GaveI at hve
  have HL := Lib.hid (And.intro hs he)
  have HC := Lib.hid hC0
  clear hA' hs he hC0 hK1 hcc hcm hna
  by_cases hz : vecE A = 0
  · have HZ := Lib.hid hz
    have hck : chkB A = true := by
      unfold vecE at hz
      cases h : chkB A with
      | true => rfl
      | false => rw [h] at hz; simp at hz
    obtain ⟨hsh, hpr, hkk⟩ := chkB_iff.1 hck
    obtain ⟨n, hn⟩ : ∃ n, A.e.length = n := ⟨_, rfl⟩
    rw [hn] at hpr
    rw [hz] at hve
    have HN := Lib.hid hn
    have HP := Lib.hid (And.intro hsh hpr)
    have hnl : n ≤ 4096 := by have := (shB_iff.1 hsh).2.2; omega
    clear hz hck hkk hn hsh hpr
    go_enter Try.func28, Try.ntmps28
    go_wp2_with fail
    refine hve.mono ?_
    clear hve
    rintro e9 w1 ⟨rfl, hC1⟩
    replace y0 := hC1.cell y0 id
    replace y1 := hC1.cell y1 id
    replace y2 := hC1.cell y2 id
    have hB1 := hB0.fr hC1
    replace HC := Lib.hid (HC.out.tr hC1)
    clear hC1 hB0
    have hmk := make_any _ A.s n 54 #[] (fun i => (i : Int) + 1) w1 (HL.out.1.fr HC.out) HP.out.1 HP.out.2 ⟨enters_grade1, fun i hi w' h => grade1_any i w' (by omega)⟩
    rw [mkL_iota] at hmk
    go_wp2_with fail
    refine hmk.mono ?_
    clear hmk
    rintro e9 w4 ⟨v4, rfl, ho4, hC4⟩
    obtain ⟨a5, c5, a6, c6, hv4, q1, q2⟩ := ara_new ho4
    simp only [iotaS_length] at hv4 q2
    subst hv4
    replace y0 := hC4.cell y0 id
    replace y1 := hC4.cell y1 id
    replace y2 := hC4.cell y2 id
    have hb1 := hB1.lt
    have hB4 := hB1.fr hC4
    replace HC := Lib.hid (HC.out.tr hC4)
    clear ho4 hC4 hB1
    have hC5 : Chg (fun _ => False) w4 (w4.alloc (.cells #[.int .i64 1, .slice a5 A.s.length c5, .slice a6 n c6] 25)) := (Chg.refl _ _).alloc _
    obtain ⟨d0, d1, d2⟩ := cell_two w4 (.int .i64 1) (.slice a5 A.s.length c5) (.slice a6 n c6) 25
    replace y2 := hC5.cell y2 id
    have hB5 := hB4.fr hC5
    have HQ := Lib.hid (And.intro (q1.fr hC5) (q2.fr hC5))
    have HC5 := Lib.hid (HC.out.tr hC5)
    have hw2 := hb1
    rcases own_cases q2 with ⟨h1, h2⟩ | ⟨g, c, h1, h2, h3⟩
    · injection h1 with h1 h4 h5
      subst h1
      subst h4
      subst h5
      have hst := sortStable_nil (.func 55) #[.agg #[.slice ae A.e.length ce, .bool down]] #[]
      clear q1 q2 hB4 hC5 h2 HC y0 y1
      go_wp2_with fail
      refine (hst _).mono ?_
      clear hst
      rintro e9 w6 ⟨rfl, rfl⟩
      obtain ⟨z0, z1, z2, f0, f1, f2⟩ := hB5
      obtain ⟨⟨g0, g1⟩, g2⟩ := set3_cells (.int .i64 1) (.slice a5 A.s.length c5) (.slice none 0 0) z0 z1 z2
      have HLT := Lib.hid hw2
      clear hw2
      go_wp2
      simp [bodyPost, results, Try.results28, go_sem, g0, g1, g2]
      exact gr_leave HZ.out (by rw [List.eq_nil_of_length_eq_zero HN.out]; exact okS_nil _ _) (Z := []) (by rw [HN.out]; rfl) HQ.out.1 (Own.nil _ _ _) (Nat.le_succ _) HLT.out HLT.out HC5.out
    · rw [iotaS_length] at h1
      injection h1 with h1 _ h5
      subst h1
      subst h5
      have hq : AtG (w4.alloc (.cells #[.int .i64 1, .slice a5 A.s.length c5, .slice (some ⟨g, 0, none⟩) n c6] 25)) _ g n c6 (iotaS 0 n) := HQ.out.2
      have hcs := cmp_off down HL.out.2 HC5.out (g := g) (by have := HC.out.size; have := hb1; omega)
      rw [show InP A.e.length = InP n by rw [HN.out]] at hcs
      have hst := sortStable_any _ g n c6 55 (.agg #[.slice ae A.e.length ce, .bool down]) (keyK A.e down) _ hq hcs (by omega)
      have HG := Lib.hid (And.intro h2 h3)
      have hgs : g < w4.heap.size := h3
      clear q1 q2 hB4 hC5 h2 HC y0 y1 h3 hq hcs
      go_wp2_with fail
      refine hst.mono ?_
      clear hst
      rintro e9 w6 ⟨Z, hZ, rfl, hG6, hC6⟩
      have hbg : w.heap.size + 1 < g := by have := HG.out; omega
      have HB6 := Lib.hid (hB5.chg hC6 (by omega))
      replace d0 := hC6.cell d0 (by show ¬ w4.heap.size = g; omega)
      replace d1 := hC6.cell d1 (by show ¬ w4.heap.size = g; omega)
      replace d2 := hC6.cell d2 (by show ¬ w4.heap.size = g; omega)
      have hoS := (HQ.out.1).chg hC6 (fun k hk e => own_apart HQ.out.1 HQ.out.2 (by decide) k hk (by rw [e]; rfl))
      have HF := Lib.hid (And.intro hoS (And.intro hG6 (And.intro hZ (HC5.out.trans hC6 (fun _ _ h => h) (fun i hi h => by omega)))))
      have HLT := Lib.hid hw2
      obtain ⟨z0, z1, z2, f0, f1, f2⟩ := HB6.out
      obtain ⟨⟨g0, g1⟩, g2⟩ := set3_cells (.int .i64 1) (.slice a5 A.s.length c5) (.slice (some ⟨g, 0, none⟩) n c6) z0 z1 z2
      clear hoS hG6 hZ hC6 hbg hw2 hgs hB5 y2
      go_wp2
      simp [bodyPost, results, Try.results28, go_sem, g0, g1, g2]
      exact gr_leave HZ.out HF.out.2.2.1 (by rw [HN.out]; exact HF.out.2.1.len.symm) HF.out.1 HF.out.2.1 (Nat.le_succ _) HLT.out HLT.out HF.out.2.2.2
  · have hzn : (vecE A != 0) = true := bne_iff_ne.2 hz
    obtain ⟨n, hn⟩ : ∃ n, vecE A = n := ⟨_, rfl⟩
    have HR := Lib.hid (show vecE A = n ∧ n ≠ 0 from ⟨hn, by rw [← hn]; exact hz⟩)
    rw [hn] at hve hzn
    clear hz hn
    go_enter Try.func28, Try.ntmps28
    go_wp2_with fail
    refine hve.mono ?_
    clear hve
    rintro e9 w1 ⟨rfl, hC1⟩
    obtain ⟨z0, z1, z2, f0, f1, f2⟩ := hB0.fr hC1
    obtain ⟨⟨g0, g1⟩, g2⟩ := set3_cells (.int .i64 0) (.slice none 0 0) (.slice none 0 0) z0 z1 z2
    have HC1 := Lib.hid (HC.out.tr hC1)
    clear hC1 hB0
    go_wp2
    simp [bodyPost, results, Try.results28, go_sem, g0, g1, g2]
    exact gr_no HR.out.1 HR.out.2 (Nat.le_succ _) HC1.out
end Go.Proofs.Ytnjnajbdpaaikaa
