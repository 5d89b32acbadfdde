/- Arrays: whether one may be; the same; in memory of their own. -/
import Derived.Test.YtnjnajbdpaaikaaArA
import Derived.Shelf.Abstract
namespace Go.Proofs.Ytnjnajbdpaaikaa
open Go.RowKit Go.Shelf

/-- The value v reads as the array A. -/
def Ara (w : World) (v : Value) (A : Ar) : Prop := ∃ vs ve, v = .agg #[.int .i64 A.k, vs, ve] ∧ Ls w vs A.s ∧ Ls w ve A.e
theorem Ara.fr {w w' : World} {v : Value} {A : Ar} (h : Ara w v A) (hC : Chg (fun _ => False) w w') : Ara w' v A := by
  obtain ⟨vs, ve, e, h1, h2⟩ := h
  exact ⟨vs, ve, e, h1.fr hC, h2.fr hC⟩
theorem Ara.mk {w : World} {k : Int} {vs ve : Value} {s e : List Int} (h1 : Ls w vs s) (h2 : Ls w ve e) : Ara w (.agg #[.int .i64 k, vs, ve]) ⟨k, s, e⟩ := ⟨vs, ve, rfl, h1, h2⟩
theorem Ara.no (w : World) : Ara w (.agg #[.int .i64 0, .slice none 0 0, .slice none 0 0]) noA := ⟨_, _, rfl, Ls.nil _, Ls.nil _⟩
/-- An array in memory from 'base' on. -/
def OwnA (w : World) (base : Nat) (v : Value) (A : Ar) : Prop := ∃ vs ve, v = .agg #[.int .i64 A.k, vs, ve] ∧ Own w base 3 vs A.s ∧ Own w base 2 ve A.e
theorem OwnA.ara {w : World} {base : Nat} {v : Value} {A : Ar} (h : OwnA w base v A) : Ara w v A := by
  obtain ⟨vs, ve, e, h1, h2⟩ := h
  exact ⟨vs, ve, e, h1.ls, h2.ls⟩
theorem OwnA.fr {w w' : World} {base : Nat} {v : Value} {A : Ar} (h : OwnA w base v A) (hC : Chg (fun _ => False) w w') : OwnA w' base v A := by
  obtain ⟨vs, ve, e, h1, h2⟩ := h
  exact ⟨vs, ve, e, h1.fr hC, h2.fr hC⟩
theorem OwnA.chg {S : Nat → Prop} {w w' : World} {base : Nat} {v : Value} {A : Ar} (h : OwnA w base v A) (hC : Chg S w w') (hS : ∀ k, base ≤ k → k < w.heap.size → ¬ S k) : OwnA w' base v A := by
  obtain ⟨vs, ve, e, h1, h2⟩ := h
  exact ⟨vs, ve, e, h1.chg hC (fun k hk => hS k (h1.lt k hk).1 (h1.lt k hk).2), h2.chg hC (fun k hk => hS k (h2.lt k hk).1 (h2.lt k hk).2)⟩
theorem OwnA.mono {w : World} {base b2 : Nat} {v : Value} {A : Ar} (h : OwnA w base v A) (hb : b2 ≤ base) : OwnA w b2 v A := by
  obtain ⟨vs, ve, e, h1, h2⟩ := h
  exact ⟨vs, ve, e, h1.mono hb, h2.mono hb⟩
theorem OwnA.no (w : World) (base : Nat) : OwnA w base (.agg #[.int .i64 0, .slice none 0 0, .slice none 0 0]) noA := ⟨_, _, rfl, Own.nil _ _ _, Own.nil _ _ _⟩
/-- An array in new memory. -/
def GaveA (w : World) (A : Ar) (e : Ending) (w' : World) : Prop := ∃ v', e = .returned v' ∧ OwnA w' w.heap.size v' A ∧ Chg (fun _ => False) w w'
/-- An array in new memory, and an error. -/
def GaveAE (w : World) (A : Ar) (n : Int) (e : Ending) (w' : World) : Prop := ∃ v', e = .returned (.tuple #[v', .int .i64 n]) ∧ OwnA w' w.heap.size v' A ∧ Chg (fun _ => False) w w'

theorem vrune_any (n : Int) (h0 : 0 ≤ n) (h1 : n ≤ 1114111) (w : World) : Calls Try.prog 96 #[.int .i32 n] w (fun e w' => e = .returned (.bool (!oddB n)) ∧ w' = w) := by
  have g0 : decide (n < 0) = false := decide_eq_false (by omega)
  have g1 : decide (1114111 < n) = false := decide_eq_false (by omega)
  by_cases h2 : n < 55296
  · have hb : oddB n = false := by unfold oddB; rw [g0, g1, decide_eq_false (show ¬ 55296 ≤ n by omega)]; rfl
    rw [hb]
    clear hb g0 g1
    go_enter Try.func96, Try.ntmps96
    go_wp2
    go_ret
    exact ⟨rfl, rfl⟩
  · by_cases h3 : n ≤ 57343
    · have hb : oddB n = true := by unfold oddB; rw [g0, g1, decide_eq_true (show 55296 ≤ n by omega), decide_eq_true h3]; rfl
      rw [hb]
      have h3' : ¬ 57343 < n := by omega
      clear hb g0 g1
      go_enter Try.func96, Try.ntmps96
      go_wp2
      go_ret
      exact ⟨rfl, rfl⟩
    · have hb : oddB n = false := by unfold oddB; rw [g0, g1, decide_eq_false h3, Bool.and_false]; rfl
      rw [hb]
      have h3' : 57343 < n := by omega
      clear hb g0 g1
      go_enter Try.func96, Try.ntmps96
      go_wp2
      go_ret
      exact ⟨rfl, rfl⟩
theorem char_any (n : Int) (w : World) : Calls Try.prog 81 #[.int .i64 n] w (fun e w' => e = .returned (.bool (!oddB n)) ∧ w' = w) := by
  by_cases h0 : n < 0
  · have hb : oddB n = true := by unfold oddB; rw [decide_eq_true h0]; rfl
    rw [hb]
    have h0' : decide (0 ≤ n) = false := decide_eq_false (by omega)
    clear hb
    go_enter Try.func81, Try.ntmps81
    go_wp2
    go_ret
    exact ⟨rfl, rfl⟩
  · by_cases h1 : 1114111 < n
    · have hb : oddB n = true := by unfold oddB; rw [decide_eq_true h1, Bool.true_or, Bool.or_true]
      rw [hb]
      have h0' : decide (0 ≤ n) = true := decide_eq_true (by omega)
      have h1' : decide (n ≤ 1114111) = false := decide_eq_false (by omega)
      clear hb
      go_enter Try.func81, Try.ntmps81
      go_wp2
      go_ret
      exact ⟨rfl, rfl⟩
    · have hv := vrune_any n (by omega) (by omega)
      have h0' : decide (0 ≤ n) = true := decide_eq_true (by omega)
      have h1' : decide (n ≤ 1114111) = true := decide_eq_true (by omega)
      have hw : IntKind.i32.wrap n = n := by rw [IntKind.wrap_i32]; omega
      generalize oddB n = b at *
      go_enter Try.func81, Try.ntmps81
      go_wp2_with (go_at_call 96; (with_reducible refine (hv _).mono ?_); rintro e w' ⟨rfl, rfl⟩)
      go_ret
      exact ⟨rfl, rfl⟩
theorem odd_any (n : Int) (w : World) : Calls Try.prog 80 (#[.int .i64 n] ++ #[]) w (GaveBo w (oddB n)) := by
  have hv := char_any n
  generalize oddB n = b at *
  go_enter Try.func80, Try.ntmps80
  go_wp2_with (go_at_call 81; (with_reducible refine (hv _).mono ?_); rintro e w' ⟨rfl, rfl⟩)
  go_ret
  exact ⟨by simp, Chg.refl _ _⟩
/-- A function of a number that answers yes or no. -/
def PredAt (gf : Nat) (lb : Array Value) (w : World) (xs : List Int) (p : Int → Bool) : Prop := ∀ x ∈ xs, ∀ w', Chg (fun _ => False) w w' → Calls Try.prog gf (#[.int .i64 x] ++ lb) w' (GaveBo w' (p x))
def GaveFI (w : World) (xs : List Int) (p : Int → Bool) (e : Ending) (w' : World) : Prop := ∃ r : Int, e = .returned (.int .i64 r) ∧ decide (0 ≤ r) = xs.any p ∧ Chg (fun _ => False) w w'
set_option maxHeartbeats 400000 in
theorem indexF_any (gf : Nat) (lb : Array Value) (eg : ∀ args w, (callFunc gf args).run Try.prog w = .ok (.enter gf args) w) (p : Int → Bool) (v : Value) (xs : List Int) (w : World) (hS : Ls w v xs) (hl : xs.length ≤ 1000000) (hp : PredAt gf lb w xs p) :
    Calls Try.prog 90 #[v, .func (.func gf) #[] lb] w (GaveFI w xs p) := by
  obtain ⟨ao, c, rfl, _⟩ := hS.form
  have HS := Lib.hid hS
  have HP := Lib.hid hp
  clear hS hp
  go_enter Try.func90, Try.ntmps90
  go_wp2
  go_loopw [8] (fun i wr => ∃ k : Nat, k ≤ xs.length ∧ i = .int .i64 k ∧ (xs.take k).any p = false ∧ Chg (fun _ => False) w wr) (fun i _ => xs.length - (intOf i).toNat)
  case atStart => exact ⟨0, Nat.zero_le _, rfl, rfl, Chg.refl _ _⟩
  case round =>
    obtain ⟨k, hk, rfl, hbad, hC⟩ := hrel
    have HB := Lib.hid hbad
    clear hbad
    by_cases hlt : k < xs.length
    · obtain ⟨b, o, c', e1, hcell⟩ := (HS.out.fr hC).at hlt
      injection e1 with e1 e2 e3
      clear e2 e3
      subst e1
      have hkw : IntKind.i64.wrap ((k : Int) + 1) = (k : Int) + 1 := IntWalk.i64_in _ (by omega)
      obtain ⟨x, hx⟩ : ∃ x, xs[k] = x := ⟨_, rfl⟩
      have HT := Lib.hid (show xs.take (k + 1) = xs.take k ++ [x] by rw [List.take_succ_eq_append_getElem hlt, hx])
      have hm : x ∈ xs := by rw [← hx]; exact List.getElem_mem hlt
      have HM := Lib.hid hm
      rw [hx] at hcell
      have hlet := HP.out x hm _ hC
      have hk2 : (k : Int) < (xs.length : Int) := by omega
      clear hx hm
      cases hb : p x with
      | true =>
        rw [hb] at hlet
        have HBX := Lib.hid hb
        clear hb
        go_wp2_with fail
        refine hlet.mono ?_
        clear hlet
        rintro e w1 ⟨rfl, hC1⟩
        go_wp2
        go_ret
        refine ⟨k, rfl, ?_, hC.tr hC1⟩
        rw [decide_eq_true (by omega), eq_comm, List.any_eq_true]
        exact ⟨x, HM.out, HBX.out⟩
      | false =>
        rw [hb] at hlet
        have HBX := Lib.hid hb
        clear hb
        go_wp2_with fail
        refine hlet.mono ?_
        clear hlet
        rintro e w1 ⟨rfl, hC1⟩
        go_wp2
        go_roundw
        case rel => exact ⟨k + 1, hlt, by go_num, by rw [HT.out, List.any_append, HB.out]; simp [HBX.out], hC.tr hC1⟩
        case measure => exact fit_meas k xs.length hlt
    · obtain rfl : k = xs.length := by omega
      go_wp2
      go_ret
      refine ⟨-1, rfl, ?_, hC⟩
      have := HB.out
      rw [List.take_length] at this
      rw [this]
      rfl
theorem containsF_any (gf : Nat) (lb : Array Value) (eg : ∀ args w, (callFunc gf args).run Try.prog w = .ok (.enter gf args) w) (p : Int → Bool) (v : Value) (xs : List Int) (w : World) (hS : Ls w v xs) (hl : xs.length ≤ 1000000) (hp : PredAt gf lb w xs p) :
    Calls Try.prog 59 #[v, .func (.func gf) #[] lb] w (GaveBo w (xs.any p)) := by
  have h := indexF_any gf lb eg p v xs w hS hl hp
  clear eg hp
  go_enter Try.func59, Try.ntmps59
  go_wp2_with fail
  refine h.mono ?_
  rintro e w' ⟨r, rfl, hr, hC⟩
  have HR := Lib.hid hr
  clear hr
  go_wp2
  go_ret
  exact ⟨by rw [← HR.out]; rfl, hC⟩
theorem odds_any (v : Value) (xs : List Int) (w : World) (hS : Ls w v xs) (hl : xs.length ≤ 1000000) : Calls Try.prog 59 #[v, .func (.func 80) #[] #[]] w (GaveBo w (xs.any oddB)) :=
  containsF_any 80 #[] (enters_of Try.func80 (by kernel_rfl) rfl) oddB v xs w hS hl (fun x _ w' _ => odd_any x w')
set_option maxRecDepth 100000 in
set_option maxHeartbeats 1000000 in
theorem check_any (v : Value) (A : Ar) (w : World) (hA : Ara w v A) (hl : A.e.length ≤ 1000000) : Calls Try.prog 40 #[v] w (GaveI w (chkE A)) := by
  obtain ⟨k, s, e⟩ := A
  obtain ⟨vs, ve, hv, hs, he⟩ := hA
  simp only at hs he hv hl ⊢
  subst hv
  obtain ⟨sa, cs, rfl, _⟩ := hs.form
  obtain ⟨ae, ce, rfl, _⟩ := he.form
  have hC0 := (Chg.refl (fun _ => False) w).alloc (.cells #[.int .i64 k, .slice sa s.length cs, .slice ae e.length ce] 25)
  have hcnt := count_any _ s _ (hs.fr hC0)
  have hodd := fun w' (h : Chg (fun _ => False) (w.alloc (.cells #[.int .i64 k, .slice sa s.length cs, .slice ae e.length ce] 25)) w') => odds_any _ e w' ((he.fr hC0).fr h) hl
  unfold GaveC at hcnt
  rcases cntE_cases s with ⟨h1, h2, h3⟩ | ⟨h1, h2, h3⟩
  · rw [h2, h3] at hcnt
    obtain ⟨n, hn⟩ : ∃ n, prodL s = n := ⟨_, rfl⟩
    rw [hn] at hcnt
    by_cases hne : n = (e.length : Int)
    · have b1 : (n != (e.length : Int)) = false := by rw [bne_eq_false_iff_eq]; exact hne
      by_cases k1 : k = 1
      · subst k1
        have HR := Lib.hid (show chkE ⟨1, s, e⟩ = 0 from chkE_zero.2 (chkB_iff.2 ⟨h1, by rw [hn]; exact hne, by simp [kndB]⟩))
        clear h1 h2 h3 hn hne hodd hs he
        go_enter Try.func40, Try.ntmps40
        go_wp2_with fail
        refine hcnt.mono ?_
        clear hcnt
        rintro e w1 ⟨rfl, rfl⟩
        go_wp2
        go_ret
        exact ⟨by rw [HR.out]; rfl, hC0⟩
      · by_cases k2 : k = 2
        · subst k2
          cases ho : e.any oddB with
          | true =>
            rw [ho] at hodd
            have HR := Lib.hid (show chkE ⟨2, s, e⟩ = 110 by unfold chkE chkB; rw [h1]; simp [kndB, ho])
            clear h1 h2 h3 hn hne hs he ho
            go_enter Try.func40, Try.ntmps40
            go_wp2_with fail
            refine hcnt.mono ?_
            clear hcnt
            rintro e w1 ⟨rfl, rfl⟩
            have hodd1 := hodd _ (Chg.refl _ _)
            clear hodd
            go_wp2_with fail
            refine hodd1.mono ?_
            clear hodd1
            rintro e w1 ⟨rfl, hC1⟩
            go_wp2
            go_ret
            exact ⟨by rw [HR.out]; rfl, hC0.tr hC1⟩
          | false =>
            rw [ho] at hodd
            have HR := Lib.hid (show chkE ⟨2, s, e⟩ = 0 by unfold chkE chkB; rw [h1, hn, decide_eq_true hne]; simp [kndB, ho])
            clear h1 h2 h3 hn hne hs he ho
            go_enter Try.func40, Try.ntmps40
            go_wp2_with fail
            refine hcnt.mono ?_
            clear hcnt
            rintro e w1 ⟨rfl, rfl⟩
            have hodd1 := hodd _ (Chg.refl _ _)
            clear hodd
            go_wp2_with fail
            refine hodd1.mono ?_
            clear hodd1
            rintro e w1 ⟨rfl, hC1⟩
            go_wp2
            go_ret
            exact ⟨by rw [HR.out]; rfl, hC0.tr hC1⟩
        · have b2 : (k == 1) = false := beq_eq_false_iff_ne.2 k1
          have b3 : (k == 2) = false := beq_eq_false_iff_ne.2 k2
          have HR := Lib.hid (show chkE ⟨k, s, e⟩ = 110 by unfold chkE chkB; simp [kndB, k1, k2])
          clear h1 h2 h3 hn hne hs he hodd k1 k2
          go_enter Try.func40, Try.ntmps40
          go_wp2_with fail
          refine hcnt.mono ?_
          clear hcnt
          rintro e w1 ⟨rfl, rfl⟩
          go_wp2
          go_ret
          exact ⟨by rw [HR.out]; rfl, hC0⟩
    · have b1 : (n != (e.length : Int)) = true := by rw [bne_iff_ne]; exact hne
      have HR := Lib.hid (show chkE ⟨k, s, e⟩ = 110 by unfold chkE chkB; simp [hn, hne])
      clear h1 h2 h3 hn hne hs he hodd
      go_enter Try.func40, Try.ntmps40
      go_wp2_with fail
      refine hcnt.mono ?_
      clear hcnt
      rintro e w1 ⟨rfl, rfl⟩
      go_wp2
      go_ret
      exact ⟨by rw [HR.out]; rfl, hC0⟩
  · rw [h2, h3] at hcnt
    have HR := Lib.hid (show chkE ⟨k, s, e⟩ = 110 by unfold chkE chkB; simp [h1])
    clear h1 h2 h3 hs he hodd
    go_enter Try.func40, Try.ntmps40
    go_wp2_with fail
    refine hcnt.mono ?_
    clear hcnt
    rintro e w1 ⟨rfl, rfl⟩
    go_wp2
    go_ret
    exact ⟨by rw [HR.out]; rfl, hC0⟩
end Go.Proofs.Ytnjnajbdpaaikaa
