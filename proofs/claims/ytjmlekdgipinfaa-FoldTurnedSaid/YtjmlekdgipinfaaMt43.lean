/- fold: functions checked, and the outer product's shape. -/
import Derived.Test.YtjmlekdgipinfaaMt42
namespace Go.Proofs.Ytjmlekdgipinfaa
open Go.RowKit Go.Shelf

set_option maxHeartbeats 400000 in
theorem indexFI_any (gf : Nat) (lb : Array Value) (eg : ∀ args w, (callFunc gf args).run Try.prog w = .ok (.enter gf args) w) (p : Int → Bool) (v : Value) (xs : List Int) (w : World) (hS : Ls w v xs) (hl : xs.length ≤ 1000000) (hp : PredAt gf lb w xs p) :
    Calls Try.prog 114 #[v, .func (.func gf) #[] lb] w (GaveFI w xs p) := by
  obtain ⟨ao, c, rfl, _⟩ := hS.form
  have HS := Lib.hid hS
  have HP := Lib.hid hp
  clear hS hp
  go_enter Try.func114, Try.ntmps114
  go_wp2
  go_loopw [8] (fun i wr => ∃ k : Nat, k ≤ xs.length ∧ i = .int .i64 k ∧ (xs.take k).any p = false ∧ Chg (fun _ => False) w wr) (fun i _ => xs.length - (intOf i).toNat)
  case atStart => exact ⟨0, Nat.zero_le _, rfl, rfl, Chg.refl _ _⟩
  case round =>
    obtain ⟨k, hk, rfl, hbad, hC⟩ := hrel
    have HB := Lib.hid hbad
    clear hbad
    by_cases hlt : k < xs.length
    · obtain ⟨b, o, c', e1, hcell⟩ := (HS.out.fr hC).at hlt
      injection e1 with e1 e2 e3
      clear e2 e3
      subst e1
      have hkw : IntKind.i64.wrap ((k : Int) + 1) = (k : Int) + 1 := IntWalk.i64_in _ (by omega)
      obtain ⟨x, hx⟩ : ∃ x, xs[k] = x := ⟨_, rfl⟩
      have HT := Lib.hid (show xs.take (k + 1) = xs.take k ++ [x] by rw [List.take_succ_eq_append_getElem hlt, hx])
      have hm : x ∈ xs := by rw [← hx]; exact List.getElem_mem hlt
      have HM := Lib.hid hm
      rw [hx] at hcell
      have hlet := HP.out x hm _ hC
      have hk2 : (k : Int) < (xs.length : Int) := by omega
      clear hx hm
      cases hb : p x with
      | true =>
        rw [hb] at hlet
        have HBX := Lib.hid hb
        clear hb
        go_wp2_with fail
        refine hlet.mono ?_
        clear hlet
        rintro e w1 ⟨rfl, hC1⟩
        go_wp2
        go_ret
        refine ⟨k, rfl, ?_, hC.tr hC1⟩
        rw [decide_eq_true (by omega), eq_comm, List.any_eq_true]
        exact ⟨x, HM.out, HBX.out⟩
      | false =>
        rw [hb] at hlet
        have HBX := Lib.hid hb
        clear hb
        go_wp2_with fail
        refine hlet.mono ?_
        clear hlet
        rintro e w1 ⟨rfl, hC1⟩
        go_wp2
        go_roundw
        case rel => exact ⟨k + 1, hlt, by go_num, by rw [HT.out, List.any_append, HB.out]; simp [HBX.out], hC.tr hC1⟩
        case measure => exact fit_meas k xs.length hlt
    · obtain rfl : k = xs.length := by omega
      go_wp2
      go_ret
      refine ⟨-1, rfl, ?_, hC⟩
      have := HB.out
      rw [List.take_length] at this
      rw [this]
      rfl
theorem containsFI_any (gf : Nat) (lb : Array Value) (eg : ∀ args w, (callFunc gf args).run Try.prog w = .ok (.enter gf args) w) (p : Int → Bool) (v : Value) (xs : List Int) (w : World) (hS : Ls w v xs) (hl : xs.length ≤ 1000000) (hp : PredAt gf lb w xs p) :
    Calls Try.prog 81 #[v, .func (.func gf) #[] lb] w (GaveBo w (xs.any p)) := by
  have h := indexFI_any gf lb eg p v xs w hS hl hp
  clear eg hp
  go_enter Try.func81, Try.ntmps81
  go_wp2_with fail
  refine h.mono ?_
  rintro e w' ⟨r, rfl, hr, hC⟩
  have HR := Lib.hid hr
  clear hr
  go_wp2
  go_ret
  exact ⟨by rw [← HR.out]; rfl, hC⟩
theorem checked1_any (f : Int) (w : World) : Calls Try.prog 82 #[.int .i64 f] w (GaveBo w (!binB f)) := by
  have h := binary_any f w
  unfold SaidB at h
  generalize binB f = b at *
  go_enter Try.func82, Try.ntmps82
  go_wp2_with fail
  refine h.mono ?_
  clear h
  rintro e9 w1 ⟨rfl, rfl⟩
  go_wp2
  go_ret
  exact ⟨rfl, Chg.refl _ _⟩
def ckE (l : List Int) (A B : Ar) : Int := if l.any (fun f => !binB f) then 2 else if chkB A && chkB B then 0 else 110
set_option maxRecDepth 100000 in
set_option maxHeartbeats 2000000 in
theorem fchecked_any (u v vl : Value) (A B : Ar) (l : List Int) (w : World) (hA : Ara w u A) (hB : Ara w v B) (hL : Ls w vl l) (hl1 : A.e.length ≤ 1000000) (hl2 : B.e.length ≤ 1000000) (hl3 : l.length ≤ 1000000) : Calls Try.prog 47 #[u, v, vl] w (GaveI w (ckE l A B)) := by
  have hck1 := fun w' (h : Chg (fun _ => False) w w') => check_any u A w' (hA.fr h) hl1
  have hck2 := fun w' (h : Chg (fun _ => False) w w') => check_any v B w' (hB.fr h) hl2
  have hcf := fun w' (h : Chg (fun _ => False) w w') => containsFI_any 82 #[] (enters_of Try.func82 (by kernel_rfl) rfl) (fun f => !binB f) vl l w' (hL.fr h) hl3 (fun x _ w2 _ => checked1_any x w2)
  obtain ⟨vs, ve, rfl, hs, he⟩ := hA
  obtain ⟨us, ue, rfl, ht, hf⟩ := hB
  obtain ⟨sa, cs, rfl, _⟩ := hs.form
  obtain ⟨ea, ce, rfl, _⟩ := he.form
  obtain ⟨ta, ct, rfl, _⟩ := ht.form
  obtain ⟨fa, cf, rfl, _⟩ := hf.form
  obtain ⟨la, cl, rfl, _⟩ := hL.form
  obtain ⟨y0, y1, y2⟩ := cell_two w (.int .i64 A.k) (.slice sa A.s.length cs) (.slice ea A.e.length ce) 25
  obtain ⟨z0, z1, z2⟩ := cell_two (w.alloc (.cells #[.int .i64 A.k, .slice sa A.s.length cs, .slice ea A.e.length ce] 25)) (.int .i64 B.k) (.slice ta B.s.length ct) (.slice fa B.e.length cf) 25
  have hK := (Chg.refl (fun _ => False) (w.alloc (.cells #[.int .i64 A.k, .slice sa A.s.length cs, .slice ea A.e.length ce] 25))).alloc (.cells #[.int .i64 B.k, .slice ta B.s.length ct, .slice fa B.e.length cf] 25)
  replace y0 := hK.cell y0 id
  replace y1 := hK.cell y1 id
  replace y2 := hK.cell y2 id
  rw [World.size_alloc] at z0 z1 z2
  have hC0 := ((Chg.refl (fun _ => False) w).alloc (.cells #[.int .i64 A.k, .slice sa A.s.length cs, .slice ea A.e.length ce] 25)).tr hK
  have HC := Lib.hid hC0
  have h1 := hcf _ hC0
  have H1 := Lib.hid hck1
  have H2 := Lib.hid hck2
  clear hs he ht hf hL hK hC0 hck1 hck2 hcf hl1 hl2 hl3
  obtain ⟨b, hb⟩ : ∃ b, l.any (fun f => !binB f) = b := ⟨_, rfl⟩
  obtain ⟨E, hE⟩ : ∃ E, ckE l A B = E := ⟨_, rfl⟩
  have HE := Lib.hid (show (b = true → E = 2) ∧ (b = false → chkB A = false → E = 110) ∧ (b = false → chkB A = true → chkB B = false → E = 110) ∧ (b = false → chkB A = true → chkB B = true → E = 0) from by
    rw [← hE]
    unfold ckE
    rw [hb]
    refine ⟨fun h => by rw [h]; rfl, fun h h2 => by rw [h, h2]; rfl, fun h h2 h3 => by rw [h, h2, h3]; rfl, fun h h2 h3 => by rw [h, h2, h3]; rfl⟩)
  rw [hb] at h1
  rw [hE]
  clear hb hE
  go_enter Try.func47, Try.ntmps47
  go_wp2_with fail
  refine h1.mono ?_
  clear h1
  rintro e9 w1 ⟨rfl, hC1⟩
  replace HC := Lib.hid (HC.out.tr hC1)
  replace y0 := hC1.cell y0 id
  replace y1 := hC1.cell y1 id
  replace y2 := hC1.cell y2 id
  replace z0 := hC1.cell z0 id
  replace z1 := hC1.cell z1 id
  replace z2 := hC1.cell z2 id
  clear hC1
  cases b with
  | true =>
    obtain rfl := HE.out.1 rfl
    go_wp2
    go_ret
    exact ⟨rfl, HC.out⟩
  | false =>
    have HE2 := Lib.hid (show (chkB A = false → E = 110) ∧ (chkB A = true → chkB B = false → E = 110) ∧ (chkB A = true → chkB B = true → E = 0) from ⟨HE.out.2.1 rfl, HE.out.2.2.1 rfl, HE.out.2.2.2 rfl⟩)
    clear HE
    have h1 := H1.out w1 HC.out
    unfold GaveI at h1
    cases hca : chkB A with
    | false =>
      rw [show chkE A = 110 by unfold chkE; rw [hca]; rfl] at h1
      obtain rfl := HE2.out.1 hca
      clear hca
      go_wp2_with fail
      refine h1.mono ?_
      clear h1
      rintro e9 w2 ⟨rfl, hC2⟩
      replace HC := Lib.hid (HC.out.tr hC2)
      replace y0 := hC2.cell y0 id
      replace y1 := hC2.cell y1 id
      replace y2 := hC2.cell y2 id
      replace z0 := hC2.cell z0 id
      replace z1 := hC2.cell z1 id
      replace z2 := hC2.cell z2 id
      clear hC2
      go_wp2
      go_ret
      exact ⟨rfl, HC.out⟩
    | true =>
      rw [show chkE A = 0 by unfold chkE; rw [hca]; rfl] at h1
      have HA := Lib.hid hca
      clear hca
      go_wp2_with fail
      refine h1.mono ?_
      clear h1
      rintro e9 w2 ⟨rfl, hC2⟩
      replace HC := Lib.hid (HC.out.tr hC2)
      replace y0 := hC2.cell y0 id
      replace y1 := hC2.cell y1 id
      replace y2 := hC2.cell y2 id
      replace z0 := hC2.cell z0 id
      replace z1 := hC2.cell z1 id
      replace z2 := hC2.cell z2 id
      clear hC2
      have h1 := H2.out w2 HC.out
      unfold GaveI at h1
      cases hcb : chkB B with
      | false =>
        rw [show chkE B = 110 by unfold chkE; rw [hcb]; rfl] at h1
        obtain rfl := HE2.out.2.1 HA.out hcb
        clear hcb
        go_wp2_with fail
        refine h1.mono ?_
        clear h1
        rintro e9 w3 ⟨rfl, hC3⟩
        replace HC := Lib.hid (HC.out.tr hC3)
        replace y0 := hC3.cell y0 id
        replace y1 := hC3.cell y1 id
        replace y2 := hC3.cell y2 id
        replace z0 := hC3.cell z0 id
        replace z1 := hC3.cell z1 id
        replace z2 := hC3.cell z2 id
        clear hC3
        go_wp2
        go_ret
        exact ⟨rfl, HC.out⟩
      | true =>
        rw [show chkE B = 0 by unfold chkE; rw [hcb]; rfl] at h1
        obtain rfl := HE2.out.2.2 HA.out hcb
        clear hcb
        go_wp2_with fail
        refine h1.mono ?_
        clear h1
        rintro e9 w3 ⟨rfl, hC3⟩
        replace HC := Lib.hid (HC.out.tr hC3)
        replace y0 := hC3.cell y0 id
        replace y1 := hC3.cell y1 id
        replace y2 := hC3.cell y2 id
        replace z0 := hC3.cell z0 id
        replace z1 := hC3.cell z1 id
        replace z2 := hC3.cell z2 id
        clear hC3
        go_wp2
        go_ret
        exact ⟨rfl, HC.out⟩
end Go.Proofs.Ytjmlekdgipinfaa
