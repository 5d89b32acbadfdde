/- pick: index-of, membership. -/
import Derived.Test.YtnjnajbdpaaikaaPkI
import Derived.Test.YtnjnajbdpaaikaaArY
namespace Go.Proofs.Ytnjnajbdpaaikaa
open Go.RowKit Go.Shelf Go.WideMaps Go.Maps

theorem mkL_map (xs : List Int) (g : Int → Int) : mkL xs.length (fun i => g (xs.getD i 0)) = xs.map g := by
  refine List.ext_getElem (by simp [mkL]) (fun i h1 h2 => ?_)
  have hi : i < xs.length := by simpa using h2
  simp [mkL, List.getD, hi]
def ioE (A B : Ar) : Int := if chkB B then vecE A else 110
def ioA (A B : Ar) : Ar := if ioE A B = 0 then ⟨1, B.s, B.e.map (ioV (plF A B.k) A.e.length)⟩ else noA
def meE (A B : Ar) : Int := if chkB A && chkB B then 0 else 110
def meA (A B : Ar) : Ar := if meE A B = 0 then ⟨1, A.s, A.e.map (fun x => min 1 (plF B A.k x))⟩ else noA
def ArIn (A : Ar) : Prop := A.e.length ≤ 1000000 ∧ ∀ x ∈ A.e, In64 x
theorem enters_io1 : ∀ args w, (callFunc 52 args).run Try.prog w = .ok (.enter 52 args) w := enters_of Try.func52 (by kernel_rfl) rfl
theorem enters_me1 : ∀ args w, (callFunc 53 args).run Try.prog w = .ok (.enter 53 args) w := enters_of Try.func53 (by kernel_rfl) rfl
set_option maxRecDepth 100000 in
set_option maxHeartbeats 2000000 in
theorem indexOf_any (u v : Value) (A B : Ar) (w : World) (hA : Ara w u A) (hBB : Ara w v B) (hIA : ArIn A) (hIB : ArIn B) : Calls Try.prog 26 #[u, v] w (GaveAE w (ioA A B) (ioE A B)) := by
  have hck := fun w' (h : Chg (fun _ => False) w w') => check_any v B w' (hBB.fr h) hIB.1
  have hve := fun w' (h : Chg (fun _ => False) w w') => vector_any u A w' (hA.fr h) hIA.1
  have hpl := fun w' (h : Chg (fun _ => False) w w') => places_any u A B.k w' (hA.fr h) hIA.1 hIA.2
  obtain ⟨vs, ve, rfl, hs, he⟩ := hA
  obtain ⟨us, ue, rfl, ht, hf⟩ := hBB
  have HEL := Lib.hid (And.intro he hf)
  have HSH := Lib.hid ht
  obtain ⟨sa, cs, rfl, _⟩ := hs.form
  obtain ⟨ea, ce, rfl, _⟩ := he.form
  obtain ⟨ta, ct, rfl, _⟩ := ht.form
  obtain ⟨fa, cf, rfl, _⟩ := hf.form
  obtain ⟨y0, y1, y2⟩ := cell_two w (.int .i64 A.k) (.slice sa A.s.length cs) (.slice ea A.e.length ce) 25
  obtain ⟨z0, z1, z2⟩ := cell_two (w.alloc (.cells #[.int .i64 A.k, .slice sa A.s.length cs, .slice ea A.e.length ce] 25)) (.int .i64 B.k) (.slice ta B.s.length ct) (.slice fa B.e.length cf) 25
  have hK1 := (Chg.refl (fun _ => False) (w.alloc (.cells #[.int .i64 A.k, .slice sa A.s.length cs, .slice ea A.e.length ce] 25))).alloc (.cells #[.int .i64 B.k, .slice ta B.s.length ct, .slice fa B.e.length cf] 25)
  have hK2 := (Chg.refl (fun _ => False) ((w.alloc (.cells #[.int .i64 A.k, .slice sa A.s.length cs, .slice ea A.e.length ce] 25)).alloc (.cells #[.int .i64 B.k, .slice ta B.s.length ct, .slice fa B.e.length cf] 25))).alloc (.cells #[.int .i64 0, .slice none 0 0, .slice none 0 0] 25)
  have hB := Bx.new ((w.alloc (.cells #[.int .i64 A.k, .slice sa A.s.length cs, .slice ea A.e.length ce] 25)).alloc (.cells #[.int .i64 B.k, .slice ta B.s.length ct, .slice fa B.e.length cf] 25)) (.int .i64 0) (.slice none 0 0) (.slice none 0 0) 25
  rw [World.size_alloc, World.size_alloc] at hB
  replace y0 := hK2.cell (hK1.cell y0 id) id
  replace y1 := hK2.cell (hK1.cell y1 id) id
  replace y2 := hK2.cell (hK1.cell y2 id) id
  replace z0 := hK2.cell z0 id
  replace z1 := hK2.cell z1 id
  replace z2 := hK2.cell z2 id
  rw [World.size_alloc] at z0 z1 z2
  have hC0 := (((Chg.refl (fun _ => False) w).alloc (.cells #[.int .i64 A.k, .slice sa A.s.length cs, .slice ea A.e.length ce] 25)).tr hK1).tr hK2
  have hck1 := hck _ hC0
  have HC := Lib.hid hC0
  have HI := Lib.hid (And.intro hIA hIB)
  clear hs he ht hf hK1 hK2 hC0 hck hIA hIB
  cases hcb : chkB B with
  | false =>
    rw [show chkE B = 110 by unfold chkE; rw [hcb]; rfl] at hck1
    have hE : ioE A B = 110 := by unfold ioE; rw [hcb]; rfl
    have HR := Lib.hid (show ioE A B = 110 ∧ ioA A B = noA from ⟨hE, by unfold ioA; rw [hE]; rfl⟩)
    clear hcb hE hve hpl
    go_enter Try.func26, Try.ntmps26
    go_wp2_with fail
    refine hck1.mono ?_
    clear hck1
    rintro e9 w1 ⟨rfl, hC1⟩
    replace HC := Lib.hid (HC.out.tr hC1)
    replace y0 := hC1.cell y0 id
    replace y1 := hC1.cell y1 id
    replace y2 := hC1.cell y2 id
    replace z0 := hC1.cell z0 id
    replace z1 := hC1.cell z1 id
    replace z2 := hC1.cell z2 id
    replace hB := hB.fr hC1
    clear hC1
    obtain ⟨p0, p1, p2, f0, f1, f2⟩ := hB
    obtain ⟨⟨g0, g1⟩, g2⟩ := set3_cells (.int .i64 0) (.slice none 0 0) (.slice none 0 0) p0 p1 p2
    go_wp2
    simp [bodyPost, results, Try.results26, go_sem, g0, g1, g2]
    rw [HR.out.1, HR.out.2]
    exact leaveNo (Nat.le_trans (Nat.le_succ _) (Nat.le_succ _)) HC.out
  | true =>
    rw [show chkE B = 0 by unfold chkE; rw [hcb]; rfl] at hck1
    have HCB := Lib.hid hcb
    have HVE := Lib.hid hve
    have HPL := Lib.hid hpl
    clear hcb hve hpl
    by_cases hz : vecE A = 0
    · have hE : ioE A B = 0 := by unfold ioE; rw [HCB.out]; exact hz
      have HR := Lib.hid (show ioE A B = 0 ∧ ioA A B = ⟨1, B.s, B.e.map (ioV (plF A B.k) A.e.length)⟩ from ⟨hE, by unfold ioA; rw [if_pos hE]⟩)
      have HZ := Lib.hid hz
      clear hz hE
      go_enter Try.func26, Try.ntmps26
      go_wp2_with fail
      refine hck1.mono ?_
      clear hck1
      rintro e9 w1 ⟨rfl, hC1⟩
      replace HC := Lib.hid (HC.out.tr hC1)
      replace y0 := hC1.cell y0 id
      replace y1 := hC1.cell y1 id
      replace y2 := hC1.cell y2 id
      replace z0 := hC1.cell z0 id
      replace z1 := hC1.cell z1 id
      replace z2 := hC1.cell z2 id
      replace hB := hB.fr hC1
      clear hC1
      have hv1 := HVE.out _ HC.out
      rw [HZ.out] at hv1
      go_wp2_with fail
      refine hv1.mono ?_
      clear hv1
      rintro e9 w2 ⟨rfl, hC2⟩
      replace HC := Lib.hid (HC.out.tr hC2)
      replace y0 := hC2.cell y0 id
      replace y1 := hC2.cell y1 id
      replace y2 := hC2.cell y2 id
      replace z0 := hC2.cell z0 id
      replace z1 := hC2.cell z1 id
      replace z2 := hC2.cell z2 id
      replace hB := hB.fr hC2
      clear hC2
      have hp1 := HPL.out _ HC.out
      go_wp2_with fail
      refine hp1.mono ?_
      clear hp1
      rintro e9 w3 ⟨mb, rfl, hP3, hC3⟩
      replace HC := Lib.hid (HC.out.tr hC3)
      replace y0 := hC3.cell y0 id
      replace y1 := hC3.cell y1 id
      replace y2 := hC3.cell y2 id
      replace z0 := hC3.cell z0 id
      replace z1 := hC3.cell z1 id
      replace z2 := hC3.cell z2 id
      replace hB := hB.fr hC3
      clear hC3
      have hK3 := (Chg.refl (fun _ => False) w3).alloc (.cells #[.map (some mb)] 79)
      have x7 := new_cell w3 #[.map (some mb)] 79 (i := 0) (v := .map (some mb)) rfl
      obtain ⟨w4, hw4⟩ : ∃ x, w3.alloc (.cells #[.map (some mb)] 79) = x := ⟨_, rfl⟩
      have HP4 := Lib.hid (hP3.fr hK3)
      rw [hw4] at hK3 x7 HP4
      have z1a := hK3.cell z1 id
      have z2a := hK3.cell z2 id
      have y2a := hK3.cell y2 id
      have HC4 := Lib.hid (HC.out.tr hK3)
      have HB4 := Lib.hid (hB.fr hK3)
      obtain ⟨n, hn⟩ : ∃ n, B.e.length = n := ⟨_, rfl⟩
      have hfe := HEL.out.2
      rw [hn] at z2a hfe
      have HN := Lib.hid hn
      have hmk := make_any _ B.s n 52 #[.pointer (some ⟨w3.heap.size, 0, none⟩), .pointer (some ⟨w.heap.size + 1, 0, none⟩), .pointer (some ⟨w.heap.size, 0, none⟩)] (fun i => ioV (plF A B.k) A.e.length (B.e.getD i 0)) w4 (HSH.out.fr HC4.out) (chkB_iff.1 HCB.out).1 ((chkB_iff.1 HCB.out).2.1.trans (by rw [hn]))
        ⟨enters_io1, fun i hi w' h => io1_any mb _ _ _ n cf A.e.length ce i fa ea (plF A B.k) B.e w' (h.cell x7 id) (h.cell z2a id) hn (hfe.fr (HC4.out.tr h)) (h.cell y2a id) hi HI.out.1.1 (HP4.out.fr h) HI.out.2.2⟩
      have hmp := mkL_map B.e (ioV (plF A B.k) A.e.length)
      rw [hn] at hmp
      rw [hmp] at hmk
      obtain ⟨L, hL⟩ : ∃ L, B.e.map (ioV (plF A B.k) A.e.length) = L := ⟨_, rfl⟩
      rw [hL] at hmk HR
      have HW4 := Lib.hid hw4
      clear hmp hL hn hfe x7 z2a y2a hK3 hP3 hw4 z1a
      have hz1 : w.heap.size + 1 < w3.heap.size := cell_lt z1
      go_wp2_with fail
      rw [HW4.out]
      refine hmk.mono ?_
      clear hmk
      rintro e9 w5 ⟨v5, rfl, ho5, hC5⟩
      obtain ⟨a5, c5, a6, c6, hv5, q1, q2⟩ := ara_new ho5
      simp only at hv5 q1 q2
      subst hv5
      have HLT := Lib.hid HB4.out.lt
      obtain ⟨p0, p1, p2, f0, f1, f2⟩ := HB4.out.fr hC5
      obtain ⟨⟨g0, g1⟩, g2⟩ := set3_cells (.int .i64 1) (.slice a5 B.s.length c5) (.slice a6 L.length c6) p0 p1 p2
      have HC5 := Lib.hid (HC4.out.tr hC5)
      clear hC5 hB
      go_wp2
      simp [bodyPost, results, Try.results26, go_sem, g0, g1, g2]
      rw [HR.out.1, HR.out.2]
      exact leaveAE q1 q2 (Nat.le_trans (Nat.le_succ _) (Nat.le_succ _)) HLT.out HLT.out HC5.out
    · have hE : ioE A B = vecE A := by unfold ioE; rw [HCB.out]; rfl
      have HR0 : ioE A B = vecE A ∧ ioA A B = noA := ⟨hE, by unfold ioA; rw [hE, if_neg hz]⟩
      have ez : (vecE A != 0) = true := bne_iff_ne.2 hz
      obtain ⟨E, hEE⟩ : ∃ E, vecE A = E := ⟨_, rfl⟩
      rw [hEE] at HR0 ez
      have HR := Lib.hid HR0
      have HE := Lib.hid hEE
      clear hz hE HR0 hEE
      go_enter Try.func26, Try.ntmps26
      go_wp2_with fail
      refine hck1.mono ?_
      clear hck1
      rintro e9 w1 ⟨rfl, hC1⟩
      replace HC := Lib.hid (HC.out.tr hC1)
      replace y0 := hC1.cell y0 id
      replace y1 := hC1.cell y1 id
      replace y2 := hC1.cell y2 id
      replace z0 := hC1.cell z0 id
      replace z1 := hC1.cell z1 id
      replace z2 := hC1.cell z2 id
      replace hB := hB.fr hC1
      clear hC1
      have hv1 := HVE.out _ HC.out
      rw [HE.out] at hv1
      go_wp2_with fail
      refine hv1.mono ?_
      clear hv1
      rintro e9 w2 ⟨rfl, hC2⟩
      replace HC := Lib.hid (HC.out.tr hC2)
      replace y0 := hC2.cell y0 id
      replace y1 := hC2.cell y1 id
      replace y2 := hC2.cell y2 id
      replace z0 := hC2.cell z0 id
      replace z1 := hC2.cell z1 id
      replace z2 := hC2.cell z2 id
      replace hB := hB.fr hC2
      clear hC2
      obtain ⟨p0, p1, p2, f0, f1, f2⟩ := hB
      obtain ⟨⟨g0, g1⟩, g2⟩ := set3_cells (.int .i64 0) (.slice none 0 0) (.slice none 0 0) p0 p1 p2
      go_wp2
      simp [bodyPost, results, Try.results26, go_sem, g0, g1, g2]
      rw [HR.out.1, HR.out.2]
      exact leaveNo (Nat.le_trans (Nat.le_succ _) (Nat.le_succ _)) HC.out
set_option maxRecDepth 100000 in
set_option maxHeartbeats 2000000 in
theorem member_any (u v : Value) (A B : Ar) (w : World) (hA : Ara w u A) (hBB : Ara w v B) (hIA : ArIn A) (hIB : ArIn B) : Calls Try.prog 27 #[u, v] w (GaveAE w (meA A B) (meE A B)) := by
  have hck := fun w' (h : Chg (fun _ => False) w w') => check_any u A w' (hA.fr h) hIA.1
  have hck2 := fun w' (h : Chg (fun _ => False) w w') => check_any v B w' (hBB.fr h) hIB.1
  have hpl := fun w' (h : Chg (fun _ => False) w w') => places_any v B A.k w' (hBB.fr h) hIB.1 hIB.2
  obtain ⟨vs, ve, rfl, hs, he⟩ := hA
  obtain ⟨us, ue, rfl, ht, hf⟩ := hBB
  have HEL := Lib.hid (And.intro he hf)
  have HSH := Lib.hid ht
  obtain ⟨sa, cs, rfl, _⟩ := hs.form
  obtain ⟨ea, ce, rfl, _⟩ := he.form
  obtain ⟨ta, ct, rfl, _⟩ := ht.form
  obtain ⟨fa, cf, rfl, _⟩ := hf.form
  obtain ⟨y0, y1, y2⟩ := cell_two w (.int .i64 A.k) (.slice sa A.s.length cs) (.slice ea A.e.length ce) 25
  obtain ⟨z0, z1, z2⟩ := cell_two (w.alloc (.cells #[.int .i64 A.k, .slice sa A.s.length cs, .slice ea A.e.length ce] 25)) (.int .i64 B.k) (.slice ta B.s.length ct) (.slice fa B.e.length cf) 25
  have hK1 := (Chg.refl (fun _ => False) (w.alloc (.cells #[.int .i64 A.k, .slice sa A.s.length cs, .slice ea A.e.length ce] 25))).alloc (.cells #[.int .i64 B.k, .slice ta B.s.length ct, .slice fa B.e.length cf] 25)
  have hK2 := (Chg.refl (fun _ => False) ((w.alloc (.cells #[.int .i64 A.k, .slice sa A.s.length cs, .slice ea A.e.length ce] 25)).alloc (.cells #[.int .i64 B.k, .slice ta B.s.length ct, .slice fa B.e.length cf] 25))).alloc (.cells #[.int .i64 0, .slice none 0 0, .slice none 0 0] 25)
  have hB := Bx.new ((w.alloc (.cells #[.int .i64 A.k, .slice sa A.s.length cs, .slice ea A.e.length ce] 25)).alloc (.cells #[.int .i64 B.k, .slice ta B.s.length ct, .slice fa B.e.length cf] 25)) (.int .i64 0) (.slice none 0 0) (.slice none 0 0) 25
  rw [World.size_alloc, World.size_alloc] at hB
  replace y0 := hK2.cell (hK1.cell y0 id) id
  replace y1 := hK2.cell (hK1.cell y1 id) id
  replace y2 := hK2.cell (hK1.cell y2 id) id
  replace z0 := hK2.cell z0 id
  replace z1 := hK2.cell z1 id
  replace z2 := hK2.cell z2 id
  rw [World.size_alloc] at z0 z1 z2
  have hC0 := (((Chg.refl (fun _ => False) w).alloc (.cells #[.int .i64 A.k, .slice sa A.s.length cs, .slice ea A.e.length ce] 25)).tr hK1).tr hK2
  have HSA := Lib.hid hs
  have hck1 := hck _ hC0
  have HC := Lib.hid hC0
  have HI := Lib.hid (And.intro hIA hIB)
  clear hs he ht hf hK1 hK2 hC0 hck hIA hIB
  cases hca : chkB A with
  | false =>
    rw [show chkE A = 110 by unfold chkE; rw [hca]; rfl] at hck1
    have hE : meE A B = 110 := by unfold meE; rw [hca]; rfl
    have HR := Lib.hid (show meE A B = 110 ∧ meA A B = noA from ⟨hE, by unfold meA; rw [hE]; rfl⟩)
    clear hca hE hck2 hpl
    go_enter Try.func27, Try.ntmps27
    go_wp2_with fail
    refine hck1.mono ?_
    clear hck1
    rintro e9 w1 ⟨rfl, hC1⟩
    replace HC := Lib.hid (HC.out.tr hC1)
    replace y0 := hC1.cell y0 id
    replace y1 := hC1.cell y1 id
    replace y2 := hC1.cell y2 id
    replace z0 := hC1.cell z0 id
    replace z1 := hC1.cell z1 id
    replace z2 := hC1.cell z2 id
    replace hB := hB.fr hC1
    clear hC1
    obtain ⟨p0, p1, p2, f0, f1, f2⟩ := hB
    obtain ⟨⟨g0, g1⟩, g2⟩ := set3_cells (.int .i64 0) (.slice none 0 0) (.slice none 0 0) p0 p1 p2
    go_wp2
    simp [bodyPost, results, Try.results27, go_sem, g0, g1, g2]
    rw [HR.out.1, HR.out.2]
    exact leaveNo (Nat.le_trans (Nat.le_succ _) (Nat.le_succ _)) HC.out
  | true =>
    rw [show chkE A = 0 by unfold chkE; rw [hca]; rfl] at hck1
    have HCA := Lib.hid hca
    have HCK := Lib.hid hck2
    have HPL := Lib.hid hpl
    clear hca hck2 hpl
    cases hcb : chkB B with
    | false =>
      have hE : meE A B = 110 := by unfold meE; rw [hcb, Bool.and_false]; rfl
      have HR := Lib.hid (show meE A B = 110 ∧ meA A B = noA from ⟨hE, by unfold meA; rw [hE]; rfl⟩)
      have HCB := Lib.hid (show chkE B = 110 by unfold chkE; rw [hcb]; rfl)
      clear hE hcb
      go_enter Try.func27, Try.ntmps27
      go_wp2_with fail
      refine hck1.mono ?_
      clear hck1
      rintro e9 w1 ⟨rfl, hC1⟩
      replace HC := Lib.hid (HC.out.tr hC1)
      replace y0 := hC1.cell y0 id
      replace y1 := hC1.cell y1 id
      replace y2 := hC1.cell y2 id
      replace z0 := hC1.cell z0 id
      replace z1 := hC1.cell z1 id
      replace z2 := hC1.cell z2 id
      replace hB := hB.fr hC1
      clear hC1
      have hv1 := HCK.out _ HC.out
      rw [HCB.out] at hv1
      go_wp2_with fail
      refine hv1.mono ?_
      clear hv1
      rintro e9 w2 ⟨rfl, hC2⟩
      replace HC := Lib.hid (HC.out.tr hC2)
      replace y0 := hC2.cell y0 id
      replace y1 := hC2.cell y1 id
      replace y2 := hC2.cell y2 id
      replace z0 := hC2.cell z0 id
      replace z1 := hC2.cell z1 id
      replace z2 := hC2.cell z2 id
      replace hB := hB.fr hC2
      clear hC2
      obtain ⟨p0, p1, p2, f0, f1, f2⟩ := hB
      obtain ⟨⟨g0, g1⟩, g2⟩ := set3_cells (.int .i64 0) (.slice none 0 0) (.slice none 0 0) p0 p1 p2
      go_wp2
      simp [bodyPost, results, Try.results27, go_sem, g0, g1, g2]
      rw [HR.out.1, HR.out.2]
      exact leaveNo (Nat.le_trans (Nat.le_succ _) (Nat.le_succ _)) HC.out
    | true =>
      have hE : meE A B = 0 := by unfold meE; rw [HCA.out, hcb]; rfl
      have HR := Lib.hid (show meE A B = 0 ∧ meA A B = ⟨1, A.s, A.e.map (fun x => min 1 (plF B A.k x))⟩ from ⟨hE, by unfold meA; rw [if_pos hE]⟩)
      have HCB := Lib.hid (show chkE B = 0 by unfold chkE; rw [hcb]; rfl)
      clear hE hcb
      go_enter Try.func27, Try.ntmps27
      go_wp2_with fail
      refine hck1.mono ?_
      clear hck1
      rintro e9 w1 ⟨rfl, hC1⟩
      replace HC := Lib.hid (HC.out.tr hC1)
      replace y0 := hC1.cell y0 id
      replace y1 := hC1.cell y1 id
      replace y2 := hC1.cell y2 id
      replace z0 := hC1.cell z0 id
      replace z1 := hC1.cell z1 id
      replace z2 := hC1.cell z2 id
      replace hB := hB.fr hC1
      clear hC1
      have hv1 := HCK.out _ HC.out
      rw [HCB.out] at hv1
      go_wp2_with fail
      refine hv1.mono ?_
      clear hv1
      rintro e9 w2 ⟨rfl, hC2⟩
      replace HC := Lib.hid (HC.out.tr hC2)
      replace y0 := hC2.cell y0 id
      replace y1 := hC2.cell y1 id
      replace y2 := hC2.cell y2 id
      replace z0 := hC2.cell z0 id
      replace z1 := hC2.cell z1 id
      replace z2 := hC2.cell z2 id
      replace hB := hB.fr hC2
      clear hC2
      have hp1 := HPL.out _ HC.out
      go_wp2_with fail
      refine hp1.mono ?_
      clear hp1
      rintro e9 w3 ⟨mb, rfl, hP3, hC3⟩
      replace HC := Lib.hid (HC.out.tr hC3)
      replace y0 := hC3.cell y0 id
      replace y1 := hC3.cell y1 id
      replace y2 := hC3.cell y2 id
      replace z0 := hC3.cell z0 id
      replace z1 := hC3.cell z1 id
      replace z2 := hC3.cell z2 id
      replace hB := hB.fr hC3
      clear hC3
      have hK3 := (Chg.refl (fun _ => False) w3).alloc (.cells #[.map (some mb)] 79)
      have x7 := new_cell w3 #[.map (some mb)] 79 (i := 0) (v := .map (some mb)) rfl
      obtain ⟨w4, hw4⟩ : ∃ x, w3.alloc (.cells #[.map (some mb)] 79) = x := ⟨_, rfl⟩
      have HP4 := Lib.hid (hP3.fr hK3)
      rw [hw4] at hK3 x7 HP4
      have y2a := hK3.cell y2 id
      have HC4 := Lib.hid (HC.out.tr hK3)
      have HB4 := Lib.hid (hB.fr hK3)
      obtain ⟨n, hn⟩ : ∃ n, A.e.length = n := ⟨_, rfl⟩
      have hfe := HEL.out.1
      rw [hn] at y2a hfe
      have hmk := make_any _ A.s n 53 #[.pointer (some ⟨w3.heap.size, 0, none⟩), .pointer (some ⟨w.heap.size, 0, none⟩)] (fun i => min 1 (plF B A.k (A.e.getD i 0))) w4 (HSA.out.fr HC4.out) (chkB_iff.1 HCA.out).1 ((chkB_iff.1 HCA.out).2.1.trans (by rw [hn]))
        ⟨enters_me1, fun i hi w' h => me1_any mb _ _ n ce i ea (plF B A.k) A.e w' (h.cell x7 id) (h.cell y2a id) hn (hfe.fr (HC4.out.tr h)) hi (HP4.out.fr h) HI.out.1.2⟩
      have hmp := mkL_map A.e (fun x => min 1 (plF B A.k x))
      rw [hn] at hmp
      rw [hmp] at hmk
      obtain ⟨L, hL⟩ : ∃ L, A.e.map (fun x => min 1 (plF B A.k x)) = L := ⟨_, rfl⟩
      rw [hL] at hmk HR
      have HW4 := Lib.hid hw4
      clear hmp hL hn hfe x7 y2a hK3 hP3 hw4
      have hy1 : w.heap.size < w3.heap.size := cell_lt y1
      go_wp2_with fail
      rw [HW4.out]
      refine hmk.mono ?_
      clear hmk
      rintro e9 w5 ⟨v5, rfl, ho5, hC5⟩
      obtain ⟨a5, c5, a6, c6, hv5, q1, q2⟩ := ara_new ho5
      simp only at hv5 q1 q2
      subst hv5
      have HLT := Lib.hid HB4.out.lt
      obtain ⟨p0, p1, p2, f0, f1, f2⟩ := HB4.out.fr hC5
      obtain ⟨⟨g0, g1⟩, g2⟩ := set3_cells (.int .i64 1) (.slice a5 A.s.length c5) (.slice a6 L.length c6) p0 p1 p2
      have HC5 := Lib.hid (HC4.out.tr hC5)
      clear hC5 hB
      go_wp2
      simp [bodyPost, results, Try.results27, go_sem, g0, g1, g2]
      rw [HR.out.1, HR.out.2]
      exact leaveAE q1 q2 (Nat.le_trans (Nat.le_succ _) (Nat.le_succ _)) HLT.out HLT.out HC5.out
end Go.Proofs.Ytnjnajbdpaaikaa
