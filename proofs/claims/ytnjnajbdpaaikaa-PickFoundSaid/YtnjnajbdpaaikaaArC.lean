/- Arrays: the document's check; the same; great; twins. -/
import Derived.Test.YtnjnajbdpaaikaaArB
namespace Go.Proofs.Ytnjnajbdpaaikaa
open Go.RowKit

def oddE (e : List Int) : Int := if e.any oddB then 110 else 0
theorem oddB_def (c : Int) : oddB c = (decide (c < 0) || (decide (1114111 < c) || (decide (55296 ≤ c) && decide (c ≤ 57343)))) := rfl
set_option maxRecDepth 100000 in
set_option maxHeartbeats 1000000 in
theorem r11check_num (s e : List Int) (sa ae : Option Addr) (cs ce : Nat) (w : World) (he : Ls w (.slice ae e.length ce) e) (hl : e.length ≤ 1000000) (n : Int)
    (hcnt : Calls Try.prog 74 #[.slice sa s.length cs] (w.alloc (.cells #[.int .i64 1, .slice sa s.length cs, .slice ae e.length ce] 25)) (fun e' w' => e' = .returned (.tuple #[.int .i64 n, .int .i64 0]) ∧ w' = w.alloc (.cells #[.int .i64 1, .slice sa s.length cs, .slice ae e.length ce] 25)))
    (b1 : (n != (e.length : Int)) = false) : Calls Try.prog 45 #[.agg #[.int .i64 1, .slice sa s.length cs, .slice ae e.length ce]] w (GaveI w 0) := by
  have hC0 := (Chg.refl (fun _ => False) w).alloc (.cells #[.int .i64 1, .slice sa s.length cs, .slice ae e.length ce] 25)
  have HE := Lib.hid (he.fr hC0)
  clear he
  go_enter Try.func45, Try.ntmps45
  go_wp2_with fail
  refine hcnt.mono ?_
  clear hcnt
  rintro e9 w1 ⟨rfl, hw1⟩
  have x0 : w1.cell? ⟨w.heap.size, 0, none⟩ = some (.int .i64 1) := by rw [hw1]; exact new_cell w _ _ rfl
  have x2 : w1.cell? ⟨w.heap.size, 2, none⟩ = some (.slice ae e.length ce) := by rw [hw1]; exact new_cell w _ _ rfl
  rw [← hw1] at hC0 HE
  clear hw1
  go_wp2
  go_loopw  [5] (fun i wr => ∃ j : Nat, j ≤ e.length ∧ i = .int .i64 j ∧ wr = w1) (fun i _ => e.length - (intOf i).toNat)
  case atStart => exact ⟨0, Nat.zero_le _, rfl, rfl⟩
  case round =>
    obtain ⟨j, hj, rfl, rfl⟩ := hrel
    by_cases hlt : j < e.length
    · obtain ⟨b, o, c', e1, hcell⟩ := HE.out.at hlt
      injection e1 with e1 e2 e3
      clear e2 e3
      subst e1
      have hkw : IntKind.i64.wrap ((j : Int) + 1) = (j : Int) + 1 := IntWalk.i64_in _ (by omega)
      have hlt' : (j : Int) < (e.length : Int) := by omega
      generalize e[j] = x at *
      go_wp2
      go_roundw
      case rel => exact ⟨j + 1, hlt, by go_num, by first | rfl | trivial⟩
      case measure => exact fit_meas j e.length hlt
    · obtain rfl : j = e.length := by omega
      go_wp2
      go_ret
      exact ⟨rfl, hC0⟩
set_option maxRecDepth 100000 in
set_option maxHeartbeats 1000000 in
theorem r11check_chr (s e : List Int) (sa ae : Option Addr) (cs ce : Nat) (w : World) (he : Ls w (.slice ae e.length ce) e) (hl : e.length ≤ 1000000) (n : Int)
    (hcnt : Calls Try.prog 74 #[.slice sa s.length cs] (w.alloc (.cells #[.int .i64 2, .slice sa s.length cs, .slice ae e.length ce] 25)) (fun e' w' => e' = .returned (.tuple #[.int .i64 n, .int .i64 0]) ∧ w' = w.alloc (.cells #[.int .i64 2, .slice sa s.length cs, .slice ae e.length ce] 25)))
    (b1 : (n != (e.length : Int)) = false) : Calls Try.prog 45 #[.agg #[.int .i64 2, .slice sa s.length cs, .slice ae e.length ce]] w (GaveI w (oddE e)) := by
  have hC0 := (Chg.refl (fun _ => False) w).alloc (.cells #[.int .i64 2, .slice sa s.length cs, .slice ae e.length ce] 25)
  have HE := Lib.hid (he.fr hC0)
  clear he
  go_enter Try.func45, Try.ntmps45
  go_wp2_with fail
  refine hcnt.mono ?_
  clear hcnt
  rintro e9 w1 ⟨rfl, hw1⟩
  have x0 : w1.cell? ⟨w.heap.size, 0, none⟩ = some (.int .i64 2) := by rw [hw1]; exact new_cell w _ _ rfl
  have x2 : w1.cell? ⟨w.heap.size, 2, none⟩ = some (.slice ae e.length ce) := by rw [hw1]; exact new_cell w _ _ rfl
  rw [← hw1] at hC0 HE
  clear hw1
  go_wp2
  go_loopw  [5] (fun i wr => ∃ j : Nat, j ≤ e.length ∧ i = .int .i64 j ∧ (e.take j).any oddB = false ∧ wr = w1) (fun i _ => e.length - (intOf i).toNat)
  case atStart => exact ⟨0, Nat.zero_le _, rfl, rfl, rfl⟩
  case round =>
    obtain ⟨j, hj, rfl, hbad, rfl⟩ := hrel
    have HB := Lib.hid hbad
    clear hbad
    by_cases hlt : j < e.length
    · obtain ⟨b, o, c', e1, hcell⟩ := HE.out.at hlt
      injection e1 with e1 e2 e3
      clear e2 e3
      subst e1
      have hkw : IntKind.i64.wrap ((j : Int) + 1) = (j : Int) + 1 := IntWalk.i64_in _ (by omega)
      have hlt' : (j : Int) < (e.length : Int) := by omega
      obtain ⟨x, hx⟩ : ∃ x, e[j] = x := ⟨_, rfl⟩
      have HT := Lib.hid (show e.take (j + 1) = e.take j ++ [x] by rw [List.take_succ_eq_append_getElem hlt, hx])
      have HM := Lib.hid (show oddB x = true → e.any oddB = true from fun h => List.any_eq_true.2 ⟨x, by rw [← hx]; exact List.getElem_mem hlt, h⟩)
      rw [hx] at hcell
      clear hx
      by_cases h0 : x < 0
      · have HO := Lib.hid (HM.out (by rw [oddB_def, decide_eq_true h0]; rfl))
        go_wp2
        go_ret
        exact ⟨by unfold oddE; rw [HO.out]; rfl, hC0⟩
      · by_cases h1 : 1114111 < x
        · have HO := Lib.hid (HM.out (by rw [oddB_def, decide_eq_true h1, Bool.true_or, Bool.or_true]))
          go_wp2
          go_ret
          exact ⟨by unfold oddE; rw [HO.out]; rfl, hC0⟩
        · by_cases h2 : 55296 ≤ x
          · by_cases h3 : x ≤ 57343
            · have HO := Lib.hid (HM.out (by rw [oddB_def, decide_eq_true h2, decide_eq_true h3]; simp))
              go_wp2
              go_ret
              exact ⟨by unfold oddE; rw [HO.out]; rfl, hC0⟩
            · have HO := Lib.hid (show oddB x = false by rw [oddB_def, decide_eq_false h0, decide_eq_false h1, decide_eq_false h3]; simp)
              go_wp2
              go_roundw
              case rel => exact ⟨j + 1, hlt, by go_num, by rw [HT.out, List.any_append, HB.out]; simp [HO.out], by first | rfl | trivial⟩
              case measure => exact fit_meas j e.length hlt
          · have HO := Lib.hid (show oddB x = false by rw [oddB_def, decide_eq_false h0, decide_eq_false h1, decide_eq_false h2]; simp)
            go_wp2
            go_roundw
            case rel => exact ⟨j + 1, hlt, by go_num, by rw [HT.out, List.any_append, HB.out]; simp [HO.out], by first | rfl | trivial⟩
            case measure => exact fit_meas j e.length hlt
    · obtain rfl : j = e.length := by omega
      go_wp2
      go_ret
      refine ⟨?_, hC0⟩
      have := HB.out
      rw [List.take_length] at this
      unfold oddE
      rw [this]
      rfl
set_option maxRecDepth 100000 in
set_option maxHeartbeats 1000000 in
theorem r11check_any (v : Value) (A : Ar) (w : World) (hA : Ara w v A) (hl : A.e.length ≤ 1000000) : Calls Try.prog 45 #[v] w (GaveI w (chkE A)) := by
  obtain ⟨k, s, e⟩ := A
  obtain ⟨vs, ve, hv, hs, he⟩ := hA
  simp only at hs he hv hl ⊢
  subst hv
  obtain ⟨sa, cs, rfl, _⟩ := hs.form
  obtain ⟨ae, ce, rfl, _⟩ := he.form
  have hC0 := (Chg.refl (fun _ => False) w).alloc (.cells #[.int .i64 k, .slice sa s.length cs, .slice ae e.length ce] 25)
  have hcnt := r11count_any _ s _ (hs.fr hC0)
  unfold GaveC at hcnt
  rcases cntE_cases s with ⟨h1, h2, h3⟩ | ⟨h1, h2, h3⟩
  · rw [h2, h3] at hcnt
    obtain ⟨n, hn⟩ : ∃ n, prodL s = n := ⟨_, rfl⟩
    rw [hn] at hcnt
    by_cases hne : n = (e.length : Int)
    · have b1 : (n != (e.length : Int)) = false := by rw [bne_eq_false_iff_eq]; exact hne
      by_cases k1 : k = 1
      · subst k1
        have HR := show chkE ⟨1, s, e⟩ = 0 from chkE_zero.2 (chkB_iff.2 ⟨h1, by rw [hn]; exact hne, by simp [kndB]⟩)
        rw [HR]
        exact r11check_num s e sa ae cs ce w he hl n hcnt b1
      · by_cases k2 : k = 2
        · subst k2
          have HR : chkE ⟨2, s, e⟩ = oddE e := by
            unfold chkE chkB oddE
            simp only [h1, hn, decide_eq_true hne, kndB]
            cases e.any oddB <;> rfl
          rw [HR]
          exact r11check_chr s e sa ae cs ce w he hl n hcnt b1
        · have b2 : (k != 1) = true := by rw [bne_iff_ne]; exact k1
          have b3 : (k != 2) = true := by rw [bne_iff_ne]; exact k2
          have HR := Lib.hid (show chkE ⟨k, s, e⟩ = 110 by unfold chkE chkB; simp [kndB, k1, k2])
          clear h1 h2 h3 hn hne hs he k1 k2
          go_enter Try.func45, Try.ntmps45
          go_wp2_with fail
          refine hcnt.mono ?_
          clear hcnt
          rintro e9 w1 ⟨rfl, rfl⟩
          go_wp2
          go_ret
          exact ⟨by rw [HR.out]; rfl, hC0⟩
    · have b1 : (n != (e.length : Int)) = true := by rw [bne_iff_ne]; exact hne
      have HR := Lib.hid (show chkE ⟨k, s, e⟩ = 110 by unfold chkE chkB; simp [hn, hne])
      clear h1 h2 h3 hn hne hs he
      go_enter Try.func45, Try.ntmps45
      go_wp2_with fail
      refine hcnt.mono ?_
      clear hcnt
      rintro e9 w1 ⟨rfl, rfl⟩
      go_wp2
      go_ret
      exact ⟨by rw [HR.out]; rfl, hC0⟩
  · rw [h2, h3] at hcnt
    have HR := Lib.hid (show chkE ⟨k, s, e⟩ = 110 by unfold chkE chkB; simp [h1])
    clear h1 h2 h3 hs he
    go_enter Try.func45, Try.ntmps45
    go_wp2_with fail
    refine hcnt.mono ?_
    clear hcnt
    rintro e9 w1 ⟨rfl, rfl⟩
    go_wp2
    go_ret
    exact ⟨by rw [HR.out]; rfl, hC0⟩
def sameA (A B : Ar) : Bool := (A.k == B.k) && (decide (A.s = B.s) && decide (A.e = B.e))
theorem sameA_iff {A B : Ar} : sameA A B = true ↔ A = B := by
  obtain ⟨k, s, e⟩ := A
  obtain ⟨l, t, f⟩ := B
  simp [sameA]
set_option maxRecDepth 100000 in
set_option maxHeartbeats 1000000 in
theorem asame_any (u v : Value) (A B : Ar) (w : World) (hA : Ara w u A) (hB : Ara w v B) (hl : A.e.length ≤ 1000000) (hm : A.s.length ≤ 1000000) : Calls Try.prog 48 #[u, v] w (GaveBo w (sameA A B)) := by
  obtain ⟨k, s, e⟩ := A
  obtain ⟨l, t, f⟩ := B
  obtain ⟨vs, ve, hv, hs, he⟩ := hA
  obtain ⟨vt, vf, hu, ht, hf⟩ := hB
  simp only at hs he hv ht hf hu hl hm ⊢
  subst hv hu
  obtain ⟨sa, cs, rfl, _⟩ := hs.form
  obtain ⟨ae, ce, rfl, _⟩ := he.form
  obtain ⟨at_, ct, rfl, _⟩ := ht.form
  obtain ⟨af, cf, rfl, _⟩ := hf.form
  have hC0 := ((Chg.refl (fun _ => False) w).alloc (.cells #[.int .i64 k, .slice sa s.length cs, .slice ae e.length ce] 25)).alloc (.cells #[.int .i64 l, .slice at_ t.length ct, .slice af f.length cf] 25)
  have h1 := fun w' (h : Chg (fun _ => False) w w') => equalI_any _ _ s t w' (hs.fr h) (ht.fr h) (by omega)
  have h2 := fun w' (h : Chg (fun _ => False) w w') => equalL_any _ _ e f w' (he.fr h) (hf.fr h) (by omega)
  unfold sameA
  simp only
  clear hs ht he hf
  cases b1 : k == l with
  | false =>
    clear h1 h2
    go_enter Try.func48, Try.ntmps48
    go_wp2_with fail
    go_ret
    exact ⟨rfl, hC0⟩
  | true =>
    cases b2 : decide (s = t) with
    | false =>
      rw [b2] at h1
      have h1' := h1 _ hC0
      clear h1 h2 b2
      go_enter Try.func48, Try.ntmps48
      go_wp2_with fail
      refine h1'.mono ?_
      clear h1'
      rintro e9 w1 ⟨rfl, hC1⟩
      go_wp2
      go_ret
      exact ⟨rfl, hC0.tr hC1⟩
    | true =>
      rw [b2] at h1
      have h1' := h1 _ hC0
      clear h1 b2
      generalize decide (e = f) = b at *
      go_enter Try.func48, Try.ntmps48
      go_wp2_with fail
      refine h1'.mono ?_
      clear h1'
      rintro e9 w1 ⟨rfl, hC1⟩
      have h2' := h2 _ (hC0.tr hC1)
      have x2 : w1.cell? ⟨w.heap.size, 2, none⟩ = some (.slice ae _ ce) := hC1.cell (alloc_cell (new_cell w _ _ rfl) _) id
      have x3 : w1.cell? ⟨w.heap.size + 1, 2, none⟩ = some (.slice af _ cf) := hC1.cell (by have h := new_cell (w.alloc (.cells #[.int .i64 k, .slice sa s.length cs, .slice ae e.length ce] 25)) #[.int .i64 l, .slice at_ t.length ct, .slice af f.length cf] 25 (i := 2) rfl; rw [World.size_alloc] at h; exact h) id
      clear h2
      go_wp2_with fail
      refine h2'.mono ?_
      clear h2' x2 x3
      rintro e9 w2 ⟨rfl, hC2⟩
      go_wp2
      go_ret
      exact ⟨rfl, (hC0.tr hC1).tr hC2⟩
set_option maxRecDepth 100000 in
set_option maxHeartbeats 1000000 in
theorem r11same_any (u v : Value) (A B : Ar) (w : World) (hA : Ara w u A) (hB : Ara w v B) (hl : A.e.length ≤ 1000000) (hm : A.s.length ≤ 1000000) : Calls Try.prog 18 #[u, v] w (GaveBo w (sameA A B)) := by
  obtain ⟨k, s, e⟩ := A
  obtain ⟨l, t, f⟩ := B
  obtain ⟨vs, ve, hv, hs, he⟩ := hA
  obtain ⟨vt, vf, hu, ht, hf⟩ := hB
  simp only at hs he hv ht hf hu hl hm ⊢
  subst hv hu
  obtain ⟨sa, cs, rfl, _⟩ := hs.form
  obtain ⟨ae, ce, rfl, _⟩ := he.form
  obtain ⟨at_, ct, rfl, _⟩ := ht.form
  obtain ⟨af, cf, rfl, _⟩ := hf.form
  have hC0 := ((Chg.refl (fun _ => False) w).alloc (.cells #[.int .i64 k, .slice sa s.length cs, .slice ae e.length ce] 25)).alloc (.cells #[.int .i64 l, .slice at_ t.length ct, .slice af f.length cf] 25)
  have h1 := r11shapes_any _ _ s t _ (hs.fr hC0) (ht.fr hC0) (by omega)
  unfold sameA
  simp only
  have HE := Lib.hid (he.fr hC0)
  have HF := Lib.hid (hf.fr hC0)
  clear hs ht he hf
  have y1 := new_cell w #[.int .i64 k, .slice sa s.length cs, .slice ae e.length ce] 25 (i := 0) rfl
  have y2 := new_cell w #[.int .i64 k, .slice sa s.length cs, .slice ae e.length ce] 25 (i := 2) rfl
  have z1 := new_cell (w.alloc (.cells #[.int .i64 k, .slice sa s.length cs, .slice ae e.length ce] 25)) #[.int .i64 l, .slice at_ t.length ct, .slice af f.length cf] 25 (i := 0) rfl
  have z2 := new_cell (w.alloc (.cells #[.int .i64 k, .slice sa s.length cs, .slice ae e.length ce] 25)) #[.int .i64 l, .slice at_ t.length ct, .slice af f.length cf] 25 (i := 2) rfl
  rw [World.size_alloc] at z1 z2
  have x0 := alloc_cell y1 (.cells #[.int .i64 l, .slice at_ t.length ct, .slice af f.length cf] 25)
  have x2 := alloc_cell y2 (.cells #[.int .i64 l, .slice at_ t.length ct, .slice af f.length cf] 25)
  clear y1 y2
  cases b1 : k == l with
  | false =>
    have b1' : (k != l) = true := by simp [bne, b1]
    clear z2 x2
    go_enter Try.func18, Try.ntmps18
    go_wp2_with fail
    refine h1.mono ?_
    clear h1
    rintro e9 w1 ⟨rfl, hC1⟩
    replace x0 := hC1.cell x0 id
    replace z1 := hC1.cell z1 id
    go_wp2
    go_ret
    exact ⟨rfl, hC0.tr hC1⟩
  | true =>
    have b1' : (k != l) = false := by simp [bne, b1]
    cases b2 : decide (s = t) with
    | false =>
      rw [b2] at h1
      clear z2 x2 b2
      go_enter Try.func18, Try.ntmps18
      go_wp2_with fail
      refine h1.mono ?_
      clear h1
      rintro e9 w1 ⟨rfl, hC1⟩
      replace x0 := hC1.cell x0 id
      replace z1 := hC1.cell z1 id
      go_wp2
      go_ret
      exact ⟨rfl, hC0.tr hC1⟩
    | true =>
      rw [b2] at h1
      clear b2
      by_cases hlen : e.length = f.length
      · have b3 : ((e.length : Int) != (f.length : Int)) = false := by rw [bne_eq_false_iff_eq]; omega
        have HL := Lib.hid hlen
        clear hlen
        go_enter Try.func18, Try.ntmps18
        go_wp2_with fail
        refine h1.mono ?_
        clear h1
        rintro e9 w1 ⟨rfl, hC1⟩
        replace x0 := hC1.cell x0 id
        replace x2 := hC1.cell x2 id
        replace z1 := hC1.cell z1 id
        replace z2 := hC1.cell z2 id
        have hC01 := hC0.tr hC1
        go_wp2
        clear x0 z1
        go_loopw [6] (fun i wr => ∃ j : Nat, j ≤ e.length ∧ i = .int .i64 j ∧ e.take j = f.take j ∧ Chg (fun _ => False) w1 wr) (fun i _ => e.length - (intOf i).toNat)
        case atStart => exact ⟨0, Nat.zero_le _, rfl, rfl, Chg.refl _ _⟩
        case round =>
          obtain ⟨j, hj, rfl, he, hC⟩ := hrel
          have x2' := hC.cell x2 id
          have z2' := hC.cell z2 id
          by_cases hlt : j < e.length
          · have hj2 : j < f.length := by have := HL.out; omega
            obtain ⟨c1, o1, d1, e1, hx⟩ := (HE.out.fr (hC1.tr hC)).at hlt
            obtain ⟨c2, o2, d2, e2, hy⟩ := (HF.out.fr (hC1.tr hC)).at hj2
            injection e1 with e1 f1 f2
            injection e2 with e2 f3 f4
            subst e1 e2
            clear f1 f2 f3 f4
            have hnx : e[j] = f[j] → e.take (j + 1) = f.take (j + 1) := fun h => by rw [List.take_succ_eq_append_getElem hlt, List.take_succ_eq_append_getElem hj2, he, h]
            have hne : e[j] ≠ f[j] → e ≠ f := fun h e => h (by subst e; rfl)
            generalize e[j] = x at *
            generalize f[j] = y at *
            have hlt' : (j : Int) < (e.length : Int) := by omega
            have hlt2 : (j : Int) < (f.length : Int) := by omega
            have hkw : IntKind.i64.wrap ((j : Int) + 1) = (j : Int) + 1 := IntWalk.i64_in _ (by omega)
            have hCd := hC.drew
            clear x2 z2
            by_cases hxy : x = y
            · have hxy' : (x != y) = false := by rw [hxy]; simp
              have HN := Lib.hid (hnx hxy)
              clear hnx hne hxy he
              go_wp2
              go_quiet (fail)
              go_wp2
              go_roundw
              case rel => exact ⟨j + 1, hlt, by go_num, HN.out, by first | exact hC.drewN _ | exact hCd⟩
              case measure => exact fit_meas j e.length hlt
            · have hxy' : (x != y) = true := by simpa using hxy
              have hne' := Lib.hid (hne hxy)
              clear hnx hne hxy he
              go_wp2
              go_quiet (fail)
              go_wp2
              go_ret
              exact ⟨by rw [decide_eq_false hne'.out]; rfl, by first | exact hC01.tr (hC.drewN _) | exact hC01.tr hCd⟩
          · obtain rfl : j = e.length := by omega
            have hxs : e = f := by
              rw [List.take_of_length_le (Nat.le_refl _), List.take_of_length_le (by have := HL.out; omega)] at he
              exact he
            have HX := Lib.hid hxs
            clear he hxs x2 z2
            go_wp2
            go_ret
            exact ⟨by rw [decide_eq_true HX.out]; rfl, hC01.tr hC⟩
      · have b3 : ((e.length : Int) != (f.length : Int)) = true := by rw [bne_iff_ne]; omega
        have HR := Lib.hid (show decide (e = f) = false from decide_eq_false (fun h => hlen (by rw [h])))
        clear hlen
        go_enter Try.func18, Try.ntmps18
        go_wp2_with fail
        refine h1.mono ?_
        clear h1
        rintro e9 w1 ⟨rfl, hC1⟩
        replace x0 := hC1.cell x0 id
        replace x2 := hC1.cell x2 id
        replace z1 := hC1.cell z1 id
        replace z2 := hC1.cell z2 id
        go_wp2
        go_ret
        exact ⟨by rw [HR.out]; rfl, hC0.tr hC1⟩
end Go.Proofs.Ytnjnajbdpaaikaa
