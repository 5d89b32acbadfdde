/- fold: functions checked, and the outer product's shape. -/
import Derived.Test.YtjmlekdgipinfaaMp35
import Derived.Test.YtjmlekdgipinfaaMp33
namespace Go.Proofs.Ytjmlekdgipinfaa
open Go.RowKit Go.Shelf

set_option maxHeartbeats 400000 in
theorem indexFI_any (gf : Nat) (lb : Array Value) (eg : ∀ args w, (callFunc gf args).run Try.prog w = .ok (.enter gf args) w) (p : Int → Bool) (v : Value) (xs : List Int) (w : World) (hS : Ls w v xs) (hl : xs.length ≤ 1000000) (hp : PredAt gf lb w xs p) :
    Calls Try.prog 114 #[v, .func (.func gf) #[] lb] w (GaveFI w xs p) := by
  obtain ⟨ao, c, rfl, _⟩ := hS.form
  have HS := Lib.hid hS
  have HP := Lib.hid hp
  clear hS hp
  go_enter Try.func114, Try.ntmps114
  go_wp2
  go_loopw [8] (fun i wr => ∃ k : Nat, k ≤ xs.length ∧ i = .int .i64 k ∧ (xs.take k).any p = false ∧ Chg (fun _ => False) w wr) (fun i _ => xs.length - (intOf i).toNat)
  case atStart => exact ⟨0, Nat.zero_le _, rfl, rfl, Chg.refl _ _⟩
  case round =>
    obtain ⟨k, hk, rfl, hbad, hC⟩ := hrel
    have HB := Lib.hid hbad
    clear hbad
    by_cases hlt : k < xs.length
    · obtain ⟨b, o, c', e1, hcell⟩ := (HS.out.fr hC).at hlt
      injection e1 with e1 e2 e3
      clear e2 e3
      subst e1
      have hkw : IntKind.i64.wrap ((k : Int) + 1) = (k : Int) + 1 := IntWalk.i64_in _ (by omega)
      obtain ⟨x, hx⟩ : ∃ x, xs[k] = x := ⟨_, rfl⟩
      have HT := Lib.hid (show xs.take (k + 1) = xs.take k ++ [x] by rw [List.take_succ_eq_append_getElem hlt, hx])
      have hm : x ∈ xs := by rw [← hx]; exact List.getElem_mem hlt
      have HM := Lib.hid hm
      rw [hx] at hcell
      have hlet := HP.out x hm _ hC
      have hk2 : (k : Int) < (xs.length : Int) := by omega
      clear hx hm
      cases hb : p x with
      | true =>
        rw [hb] at hlet
        have HBX := Lib.hid hb
        clear hb
        go_wp2_with fail
        refine hlet.mono ?_
        clear hlet
        rintro e w1 ⟨rfl, hC1⟩
        go_wp2
        go_ret
        refine ⟨k, rfl, ?_, hC.tr hC1⟩
        rw [decide_eq_true (by omega), eq_comm, List.any_eq_true]
        exact ⟨x, HM.out, HBX.out⟩
      | false =>
        rw [hb] at hlet
        have HBX := Lib.hid hb
        clear hb
        go_wp2_with fail
        refine hlet.mono ?_
        clear hlet
        rintro e w1 ⟨rfl, hC1⟩
        go_wp2
        go_roundw
        case rel => exact ⟨k + 1, hlt, by go_num, by rw [HT.out, List.any_append, HB.out]; simp [HBX.out], hC.tr hC1⟩
        case measure => exact fit_meas k xs.length hlt
    · obtain rfl : k = xs.length := by omega
      go_wp2
      go_ret
      refine ⟨-1, rfl, ?_, hC⟩
      have := HB.out
      rw [List.take_length] at this
      rw [this]
      rfl
theorem containsFI_any (gf : Nat) (lb : Array Value) (eg : ∀ args w, (callFunc gf args).run Try.prog w = .ok (.enter gf args) w) (p : Int → Bool) (v : Value) (xs : List Int) (w : World) (hS : Ls w v xs) (hl : xs.length ≤ 1000000) (hp : PredAt gf lb w xs p) :
    Calls Try.prog 81 #[v, .func (.func gf) #[] lb] w (GaveBo w (xs.any p)) := by
  have h := indexFI_any gf lb eg p v xs w hS hl hp
  clear eg hp
  go_enter Try.func81, Try.ntmps81
  go_wp2_with fail
  refine h.mono ?_
  rintro e w' ⟨r, rfl, hr, hC⟩
  have HR := Lib.hid hr
  clear hr
  go_wp2
  go_ret
  exact ⟨by rw [← HR.out]; rfl, hC⟩
theorem checked1_any (f : Int) (w : World) : Calls Try.prog 82 #[.int .i64 f] w (GaveBo w (!binB f)) := by
  have h := binary_any f w
  unfold SaidB at h
  generalize binB f = b at *
  go_enter Try.func82, Try.ntmps82
  go_wp2_with fail
  refine h.mono ?_
  clear h
  rintro e9 w1 ⟨rfl, rfl⟩
  go_wp2
  go_ret
  exact ⟨rfl, Chg.refl _ _⟩
def ckE (l : List Int) (A B : Ar) : Int := if l.any (fun f => !binB f) then 2 else if chkB A && chkB B then 0 else 110
set_option maxRecDepth 100000 in
set_option maxHeartbeats 2000000 in
theorem fchecked_any (u v vl : Value) (A B : Ar) (l : List Int) (w : World) (hA : Ara w u A) (hB : Ara w v B) (hL : Ls w vl l) (hl1 : A.e.length ≤ 1000000) (hl2 : B.e.length ≤ 1000000) (hl3 : l.length ≤ 1000000) : Calls Try.prog 47 #[u, v, vl] w (GaveI w (ckE l A B)) := by
  have hck1 := fun w' (h : Chg (fun _ => False) w w') => check_any u A w' (hA.fr h) hl1
  have hck2 := fun w' (h : Chg (fun _ => False) w w') => check_any v B w' (hB.fr h) hl2
  have hcf := fun w' (h : Chg (fun _ => False) w w') => containsFI_any 82 #[] (enters_of Try.func82 (by kernel_rfl) rfl) (fun f => !binB f) vl l w' (hL.fr h) hl3 (fun x _ w2 _ => checked1_any x w2)
  obtain ⟨vs, ve, rfl, hs, he⟩ := hA
  obtain ⟨us, ue, rfl, ht, hf⟩ := hB
  obtain ⟨sa, cs, rfl, _⟩ := hs.form
  obtain ⟨ea, ce, rfl, _⟩ := he.form
  obtain ⟨ta, ct, rfl, _⟩ := ht.form
  obtain ⟨fa, cf, rfl, _⟩ := hf.form
  obtain ⟨la, cl, rfl, _⟩ := hL.form
  obtain ⟨y0, y1, y2⟩ := cell_two w (.int .i64 A.k) (.slice sa A.s.length cs) (.slice ea A.e.length ce) 25
  obtain ⟨z0, z1, z2⟩ := cell_two (w.alloc (.cells #[.int .i64 A.k, .slice sa A.s.length cs, .slice ea A.e.length ce] 25)) (.int .i64 B.k) (.slice ta B.s.length ct) (.slice fa B.e.length cf) 25
  have hK := (Chg.refl (fun _ => False) (w.alloc (.cells #[.int .i64 A.k, .slice sa A.s.length cs, .slice ea A.e.length ce] 25))).alloc (.cells #[.int .i64 B.k, .slice ta B.s.length ct, .slice fa B.e.length cf] 25)
  replace y0 := hK.cell y0 id
  replace y1 := hK.cell y1 id
  replace y2 := hK.cell y2 id
  rw [World.size_alloc] at z0 z1 z2
  have hC0 := ((Chg.refl (fun _ => False) w).alloc (.cells #[.int .i64 A.k, .slice sa A.s.length cs, .slice ea A.e.length ce] 25)).tr hK
  have HC := Lib.hid hC0
  have h1 := hcf _ hC0
  have H1 := Lib.hid hck1
  have H2 := Lib.hid hck2
  clear hs he ht hf hL hK hC0 hck1 hck2 hcf hl1 hl2 hl3
  obtain ⟨b, hb⟩ : ∃ b, l.any (fun f => !binB f) = b := ⟨_, rfl⟩
  obtain ⟨E, hE⟩ : ∃ E, ckE l A B = E := ⟨_, rfl⟩
  have HE := Lib.hid (show (b = true → E = 2) ∧ (b = false → chkB A = false → E = 110) ∧ (b = false → chkB A = true → chkB B = false → E = 110) ∧ (b = false → chkB A = true → chkB B = true → E = 0) from by
    rw [← hE]
    unfold ckE
    rw [hb]
    refine ⟨fun h => by rw [h]; rfl, fun h h2 => by rw [h, h2]; rfl, fun h h2 h3 => by rw [h, h2, h3]; rfl, fun h h2 h3 => by rw [h, h2, h3]; rfl⟩)
  rw [hb] at h1
  rw [hE]
  clear hb hE
  go_enter Try.func47, Try.ntmps47
  go_wp2_with fail
  refine h1.mono ?_
  clear h1
  rintro e9 w1 ⟨rfl, hC1⟩
  replace HC := Lib.hid (HC.out.tr hC1)
  replace y0 := hC1.cell y0 id
  replace y1 := hC1.cell y1 id
  replace y2 := hC1.cell y2 id
  replace z0 := hC1.cell z0 id
  replace z1 := hC1.cell z1 id
  replace z2 := hC1.cell z2 id
  clear hC1
  cases b with
  | true =>
    obtain rfl := HE.out.1 rfl
    go_wp2
    go_ret
    exact ⟨rfl, HC.out⟩
  | false =>
    have HE2 := Lib.hid (show (chkB A = false → E = 110) ∧ (chkB A = true → chkB B = false → E = 110) ∧ (chkB A = true → chkB B = true → E = 0) from ⟨HE.out.2.1 rfl, HE.out.2.2.1 rfl, HE.out.2.2.2 rfl⟩)
    clear HE
    have h1 := H1.out w1 HC.out
    unfold GaveI at h1
    cases hca : chkB A with
    | false =>
      rw [show chkE A = 110 by unfold chkE; rw [hca]; rfl] at h1
      obtain rfl := HE2.out.1 hca
      clear hca
      go_wp2_with fail
      refine h1.mono ?_
      clear h1
      rintro e9 w2 ⟨rfl, hC2⟩
      replace HC := Lib.hid (HC.out.tr hC2)
      replace y0 := hC2.cell y0 id
      replace y1 := hC2.cell y1 id
      replace y2 := hC2.cell y2 id
      replace z0 := hC2.cell z0 id
      replace z1 := hC2.cell z1 id
      replace z2 := hC2.cell z2 id
      clear hC2
      go_wp2
      go_ret
      exact ⟨rfl, HC.out⟩
    | true =>
      rw [show chkE A = 0 by unfold chkE; rw [hca]; rfl] at h1
      have HA := Lib.hid hca
      clear hca
      go_wp2_with fail
      refine h1.mono ?_
      clear h1
      rintro e9 w2 ⟨rfl, hC2⟩
      replace HC := Lib.hid (HC.out.tr hC2)
      replace y0 := hC2.cell y0 id
      replace y1 := hC2.cell y1 id
      replace y2 := hC2.cell y2 id
      replace z0 := hC2.cell z0 id
      replace z1 := hC2.cell z1 id
      replace z2 := hC2.cell z2 id
      clear hC2
      have h1 := H2.out w2 HC.out
      unfold GaveI at h1
      cases hcb : chkB B with
      | false =>
        rw [show chkE B = 110 by unfold chkE; rw [hcb]; rfl] at h1
        obtain rfl := HE2.out.2.1 HA.out hcb
        clear hcb
        go_wp2_with fail
        refine h1.mono ?_
        clear h1
        rintro e9 w3 ⟨rfl, hC3⟩
        replace HC := Lib.hid (HC.out.tr hC3)
        replace y0 := hC3.cell y0 id
        replace y1 := hC3.cell y1 id
        replace y2 := hC3.cell y2 id
        replace z0 := hC3.cell z0 id
        replace z1 := hC3.cell z1 id
        replace z2 := hC3.cell z2 id
        clear hC3
        go_wp2
        go_ret
        exact ⟨rfl, HC.out⟩
      | true =>
        rw [show chkE B = 0 by unfold chkE; rw [hcb]; rfl] at h1
        obtain rfl := HE2.out.2.2 HA.out hcb
        clear hcb
        go_wp2_with fail
        refine h1.mono ?_
        clear h1
        rintro e9 w3 ⟨rfl, hC3⟩
        replace HC := Lib.hid (HC.out.tr hC3)
        replace y0 := hC3.cell y0 id
        replace y1 := hC3.cell y1 id
        replace y2 := hC3.cell y2 id
        replace z0 := hC3.cell z0 id
        replace z1 := hC3.cell z1 id
        replace z2 := hC3.cell z2 id
        clear hC3
        go_wp2
        go_ret
        exact ⟨rfl, HC.out⟩
end Go.Proofs.Ytjmlekdgipinfaa
/- fold: the outer product's shape. -/
namespace Go.Proofs.Ytjmlekdgipinfaa
open Go.RowKit Go.Shelf

def ouE (f : Int) (A B : Ar) : Int := if ckE [f] A B = 0 then (if knE f A.k B.k = 0 then (if shB (A.s ++ B.s) then 0 else 9) else knE f A.k B.k) else ckE [f] A B
def GaveOS (w : World) (s : List Int) (E : Int) (e : Ending) (w' : World) : Prop := ∃ v, e = .returned (.tuple #[v, .int .i64 E]) ∧ Chg (fun _ => False) w w' ∧ (E = 0 → Own w' w.heap.size 3 v s) ∧ (E ≠ 0 → v = .slice none 0 0)
theorem ck_zero {l : List Int} {A B : Ar} (h : ckE l A B = 0) : chkB A = true ∧ chkB B = true := by
  unfold ckE at h
  split at h
  · cases h
  · split at h
    · rename_i h2
      simpa using h2
    · cases h
set_option maxRecDepth 100000 in
set_option maxHeartbeats 2000000 in
theorem outerS_any (f : Int) (u v : Value) (A B : Ar) (w : World) (hA : Ara w u A) (hB : Ara w v B) (hl1 : A.e.length ≤ 1000000) (hl2 : B.e.length ≤ 1000000) : Calls Try.prog 14 #[.int .i64 f, u, v] w (GaveOS w (A.s ++ B.s) (ouE f A B)) := by
  have hck := fun vl w' (h : Chg (fun _ => False) w w') (hL : Ls w' vl [f]) => fchecked_any u v vl A B [f] w' (hA.fr h) (hB.fr h) hL hl1 hl2 (by simp)
  obtain ⟨vs, ve, rfl, hs, he⟩ := hA
  obtain ⟨us, ue, rfl, ht, hf⟩ := hB
  have HSH := Lib.hid (And.intro hs ht)
  obtain ⟨sa, cs, rfl, _⟩ := hs.form
  obtain ⟨ea, ce, rfl, _⟩ := he.form
  obtain ⟨ta, ct, rfl, _⟩ := ht.form
  obtain ⟨fa, cf, rfl, _⟩ := hf.form
  obtain ⟨y0, y1, y2⟩ := cell_two w (.int .i64 A.k) (.slice sa A.s.length cs) (.slice ea A.e.length ce) 25
  obtain ⟨z0, z1, z2⟩ := cell_two (w.alloc (.cells #[.int .i64 A.k, .slice sa A.s.length cs, .slice ea A.e.length ce] 25)) (.int .i64 B.k) (.slice ta B.s.length ct) (.slice fa B.e.length cf) 25
  have hK := (Chg.refl (fun _ => False) (w.alloc (.cells #[.int .i64 A.k, .slice sa A.s.length cs, .slice ea A.e.length ce] 25))).alloc (.cells #[.int .i64 B.k, .slice ta B.s.length ct, .slice fa B.e.length cf] 25)
  replace y0 := hK.cell y0 id
  replace y1 := hK.cell y1 id
  replace y2 := hK.cell y2 id
  rw [World.size_alloc] at z0 z1 z2
  have hC0 := ((Chg.refl (fun _ => False) w).alloc (.cells #[.int .i64 A.k, .slice sa A.s.length cs, .slice ea A.e.length ce] 25)).tr hK
  have hsl := own_lit ((w.alloc (.cells #[.int .i64 A.k, .slice sa A.s.length cs, .slice ea A.e.length ce] 25)).alloc (.cells #[.int .i64 B.k, .slice ta B.s.length ct, .slice fa B.e.length cf] 25)) 3 [f] 1 rfl #[.int .i64 f] rfl (by simp)
  have hC1 := (Chg.refl (fun _ => False) ((w.alloc (.cells #[.int .i64 A.k, .slice sa A.s.length cs, .slice ea A.e.length ce] 25)).alloc (.cells #[.int .i64 B.k, .slice ta B.s.length ct, .slice fa B.e.length cf] 25))).alloc (.cells #[.int .i64 f] 3)
  have h1 := hck _ _ (hC0.tr hC1) hsl.ls
  rw [World.size_alloc, World.size_alloc] at h1
  have HC := Lib.hid hC0
  have hk := kinds_any f A.k B.k
  unfold SaidI at hk
  have HX := Lib.hid (show ckE [f] A B = 0 → A.s.length + B.s.length ≤ 1000000 from fun h => by
    have h2 := ck_zero h
    have q1 := (shB_iff.1 (chkB_iff.1 h2.1).1).1
    have q2 := (shB_iff.1 (chkB_iff.1 h2.2).1).1
    omega)
  clear hs he ht hf hK hC0 hck hl1 hl2 hsl
  unfold GaveI at h1
  obtain ⟨ck, hck⟩ : ∃ c, ckE [f] A B = c := ⟨_, rfl⟩
  obtain ⟨kn, hkn⟩ : ∃ kn, knE f A.k B.k = kn := ⟨_, rfl⟩
  obtain ⟨E, hE⟩ : ∃ E, ouE f A B = E := ⟨_, rfl⟩
  have HE := Lib.hid (show (ck ≠ 0 → E = ck) ∧ (ck = 0 → kn ≠ 0 → E = kn) ∧ (ck = 0 → kn = 0 → shB (A.s ++ B.s) = true → E = 0) ∧ (ck = 0 → kn = 0 → shB (A.s ++ B.s) = false → E = 9) from by
    rw [← hE]
    unfold ouE
    rw [hck, hkn]
    refine ⟨fun h => if_neg h, fun h h2 => by rw [if_pos h, if_neg h2], fun h h2 h3 => by rw [if_pos h, if_pos h2, h3]; rfl, fun h h2 h3 => by rw [if_pos h, if_pos h2, h3]; rfl⟩)
  rw [hck] at h1 HX
  simp only [hkn] at hk
  rw [hE]
  clear hkn hck hE
  go_enter Try.func14, Try.ntmps14
  go_wp2_with fail
  refine h1.mono ?_
  clear h1
  rintro e9 w1 ⟨rfl, hC2⟩
  replace HC := Lib.hid (HC.out.tr (hC1.tr hC2))
  replace y0 := (hC1.tr hC2).cell y0 id
  replace y1 := (hC1.tr hC2).cell y1 id
  replace y2 := (hC1.tr hC2).cell y2 id
  replace z0 := (hC1.tr hC2).cell z0 id
  replace z1 := (hC1.tr hC2).cell z1 id
  replace z2 := (hC1.tr hC2).cell z2 id
  clear hC1 hC2
  by_cases h0 : ck = 0
  · subst h0
    have HE2 := Lib.hid (show (kn ≠ 0 → E = kn) ∧ (kn = 0 → shB (A.s ++ B.s) = true → E = 0) ∧ (kn = 0 → shB (A.s ++ B.s) = false → E = 9) from ⟨HE.out.2.1 rfl, HE.out.2.2.1 rfl, HE.out.2.2.2 rfl⟩)
    clear HE
    have hlm := limited_any _ _ A.s B.s w1 (HSH.out.1.fr HC.out) (HSH.out.2.fr HC.out) (HX.out rfl)
    go_wp2_with fail
    refine (hk _).mono ?_
    clear hk
    rintro e9 w2 ⟨rfl, rfl⟩
    by_cases h2 : kn = 0
    · subst h2
      have HE3 := Lib.hid (show (shB (A.s ++ B.s) = true → E = 0) ∧ (shB (A.s ++ B.s) = false → E = 9) from ⟨HE2.out.2.1 (by first | rfl | trivial), HE2.out.2.2 (by first | rfl | trivial)⟩)
      clear HE2
      go_wp2_with fail
      refine hlm.mono ?_
      clear hlm
      rintro e9 w3 ⟨hC3, x, n, rfl, hv⟩
      have HS := Lib.hid HC.out.size
      replace HC := Lib.hid (HC.out.tr hC3)
      have HV := Lib.hid hv
      clear hv hC3
      go_wp2
      go_ret2
      rcases HV.out with ⟨hs, rfl, ho⟩ | ⟨hs, rfl, rfl⟩
      · obtain rfl := HE3.out.1 hs
        exact ⟨_, rfl, HC.out, fun _ => ho.mono HS.out, fun h => absurd rfl h⟩
      · obtain rfl := HE3.out.2 hs
        exact ⟨_, rfl, HC.out, fun h => absurd h (by decide), fun _ => rfl⟩
    · have e2 : (kn != 0) = true := bne_iff_ne.2 h2
      have H2 := Lib.hid h2
      obtain rfl := HE2.out.1 h2
      clear h2 hlm
      go_wp2
      go_ret2
      exact ⟨_, rfl, HC.out, fun h => absurd h H2.out, fun _ => rfl⟩
  · have e2 : (ck != 0) = true := bne_iff_ne.2 h0
    have H2 := Lib.hid h0
    obtain rfl := HE.out.1 h0
    clear h0
    go_wp2
    go_ret2
    exact ⟨_, rfl, HC.out, fun h => absurd h H2.out, fun _ => rfl⟩
end Go.Proofs.Ytjmlekdgipinfaa
/- The document's fold: a row; rows; what is wrong ahead of the elements. -/
namespace Go.Proofs.Ytjmlekdgipinfaa
open Go.RowKit Go.Shelf

theorem rrow_step (f : Int) (xs : List Int) (k : Nat) (h : k + 1 < xs.length) : rowP f (xs.drop k) = stpP f (xs[k]'(by omega)) (rowP f (xs.drop (k + 1))) := by
  rw [List.drop_eq_getElem_cons (show k < xs.length by omega), rowP_cons f _ (by intro he; have := congrArg List.length he; simp at this; omega)]
theorem rrow_end (f : Int) (xs : List Int) (k : Nat) (h : k + 1 = xs.length) : rowP f (xs.drop k) = (xs[k]'(by omega), 0) := by
  rw [List.drop_eq_getElem_cons (show k < xs.length by omega), List.drop_eq_nil_of_le (show xs.length ≤ k + 1 by omega)]
  rfl
theorem rrow_bad (f : Int) (xs : List Int) (k : Nat) (E : Int) (hk : k < xs.length) (h : (rowP f (xs.drop k)).2 = E) (hE : E ≠ 0) : rowP f xs = (0, E) := by
  have hne : xs.drop k ≠ [] := by intro he; have := congrArg List.length he; simp at this; omega
  have h2 := rowP_err f (xs.take k) (xs.drop k) hne (by rw [h]; exact hE)
  rw [List.take_append_drop, h] at h2
  have h1 := rowP_zero f xs (by rw [h2]; exact hE)
  rw [← h1, ← h2]
set_option maxRecDepth 100000 in
set_option maxHeartbeats 2000000 in
theorem r16row_any (f : Int) (v : Value) (xs : List Int) (w : World) (hS : Ls w v xs) (hl : xs.length ≤ 1000000) (hI : ∀ x ∈ xs, In x) : Calls Try.prog 28 #[.int .i64 f, v] w (GaveP w (rwP f xs).1 (rwP f xs).2) := by
  obtain ⟨ao, c, rfl, _⟩ := hS.form
  have hid := r12ident_any f w
  unfold GaveP at hid
  cases hb : binB f with
  | false =>
    rw [show idP f = (0, 2) by unfold idP; rw [hb]; rfl] at hid
    rw [show rwP f xs = (0, 2) by unfold rwP; rw [hb]; rfl]
    clear hb hS hl hI
    go_enter Try.func28, Try.ntmps28
    go_wp2_with fail
    refine hid.mono ?_
    clear hid
    rintro e9 w1 ⟨rfl, hC1⟩
    go_wp2
    go_ret2
    exact ⟨rfl, hC1⟩
  | true =>
    rw [show idP f = (idV f, 0) by unfold idP; rw [hb]; rfl] at hid
    rw [show rwP f xs = rowP f xs by unfold rwP; rw [hb]; rfl]
    clear hb
    have HS := Lib.hid hS
    have HI := Lib.hid hI
    obtain ⟨n, hn⟩ : ∃ n, xs.length = n := ⟨_, rfl⟩
    rw [hn] at hS hl ⊢
    have HN := Lib.hid hn
    have HL := Lib.hid hl
    have kw : IntKind.i64.wrap ((n : Int) - 1) = (n : Int) - 1 := IntWalk.i64_in _ (by omega)
    clear hS hI hn hl
    go_enter Try.func28, Try.ntmps28
    go_wp2_with fail
    refine hid.mono ?_
    clear hid
    rintro e9 w1 ⟨rfl, hC1⟩
    have HC1 := Lib.hid hC1
    clear hC1
    go_wp2
    go_loopw [6, 8] (fun v6 v8 wr => ∃ (j : Nat) (i : Int), i = (j : Int) - 1 ∧ j ≤ n ∧ v8 = .int .i64 i ∧ v6 = .int .i64 (rowP f (xs.drop j)).1 ∧ (rowP f (xs.drop j)).2 = 0 ∧ Chg (fun _ => False) w wr) (fun _ v8 _ => (intOf v8 + 1).toNat)
    case atStart => exact ⟨n, (n : Int) - 1, rfl, Nat.le_refl _, rfl, by rw [List.drop_eq_nil_of_le (by have := HN.out; omega)]; rfl, by rw [List.drop_eq_nil_of_le (by have := HN.out; omega)]; rfl, HC1.out⟩
    case round =>
      obtain ⟨j, i, hi, hj, rfl, rfl, he0, hC⟩ := hrel
      have HC := Lib.hid hC
      by_cases h0 : j = 0
      · subst h0
        obtain rfl : i = -1 := by omega
        rw [List.drop_zero] at he0 ⊢
        have HE := Lib.hid he0
        clear hi hj hC he0
        go_wp2
        go_ret2
        exact ⟨by rw [HE.out]; rfl, HC.out⟩
      · obtain ⟨k, rfl⟩ : ∃ k, j = k + 1 := ⟨j - 1, by omega⟩
        obtain rfl : i = (k : Int) := by omega
        have hkl : k < xs.length := by have := HN.out; omega
        obtain ⟨b2, o2, c2, e2, hx⟩ := (HS.out.fr hC).at hkl
        injection e2 with e2 e3 e4
        subst e2
        clear e3 e4
        have hinx : In xs[k] := HI.out _ (List.getElem_mem hkl)
        have k1 : (0 : Int) ≤ (k : Int) := Int.natCast_nonneg k
        have d0 : decide ((k : Int) ≥ 0) = true := decide_eq_true (by omega)
        have k2 : (k : Int) < (n : Int) := by omega
        have kd : IntKind.i64.wrap ((k : Int) - 1) = (k : Int) - 1 := IntWalk.i64_in _ (by have := HL.out; omega)
        have HK := Lib.hid hj
        by_cases hl : k + 1 = n
        · have d1 : ((k : Int) == (n : Int) - 1) = true := by rw [beq_iff_eq]; omega
          have HR := Lib.hid (rrow_end f xs k (by have := HN.out; omega))
          generalize xs[k] = x at *
          clear hkl hl hi hj h0 he0 hC hinx
          go_wp2
          go_roundw
          case rel => exact ⟨k, (k : Int) - 1, rfl, by have := HK.out; omega, rfl, by rw [HR.out], by rw [HR.out], HC.out⟩
          case measure => simp only [intOf]; omega
        · have d1 : ((k : Int) == (n : Int) - 1) = false := by rw [beq_eq_false_iff_ne]; omega
          have hst := rrow_step f xs k (by have := HN.out; omega)
          have hq : In (rowP f (xs.drop (k + 1))).1 := row_In (fun z hz => HI.out z (List.mem_of_mem_drop hz))
          have HB := Lib.hid (rrow_bad f xs k)
          have HKL := Lib.hid hkl
          generalize rowP f (xs.drop (k + 1)) = q at *
          generalize xs[k] = x at *
          unfold stpP at hst
          rw [if_pos he0] at hst
          have ht := r12two_any f x q.1 hinx hq wr
          unfold GaveP at ht
          generalize twoP f x q.1 = p at *
          generalize q.1 = q1 at *
          clear hkl hl hi hj h0 he0 hinx hq
          by_cases hp : p.2 = 0
          · rw [if_pos hp] at hst
            rw [hp] at ht
            have HR := Lib.hid hst
            clear hst hp
            go_wp2_with fail
            refine ht.mono ?_
            clear ht
            rintro e9 w2 ⟨rfl, hC2⟩
            have HC2 := Lib.hid (HC.out.tr hC2)
            clear hC2 hC
            go_wp2
            go_roundw
            case rel => exact ⟨k, (k : Int) - 1, rfl, by have := HK.out; omega, rfl, by rw [HR.out], by rw [HR.out], HC2.out⟩
            case measure => simp only [intOf]; omega
          · rw [if_neg hp] at hst
            have HR := Lib.hid (HB.out p.2 HKL.out (by rw [hst]) hp)
            have d2 : (p.2 != 0) = true := bne_t hp
            generalize p.2 = E at *
            generalize p.1 = P1 at *
            clear hst hp
            go_wp2_with fail
            refine ht.mono ?_
            clear ht
            rintro e9 w2 ⟨rfl, hC2⟩
            have HC2 := Lib.hid (HC.out.tr hC2)
            clear hC2 hC
            go_wp2
            go_ret2
            exact ⟨by rw [HR.out]; rfl, HC2.out⟩
end Go.Proofs.Ytjmlekdgipinfaa
