/- slices' stable sort: blocks, and their merges. -/
import Derived.Test.YtnjnajbdpaaikaaPkY
namespace Go.Proofs.Ytnjnajbdpaaikaa
open Go.RowKit Go.Shelf

/-- Each block of so many, from a place on, is sorted, of the places that it had. -/
def SegF (K : Int → Int) (bs s : Nat) (R : List Int) : Prop := ∀ k, k * bs < R.length → OkS K (s + k * bs) ((R.drop (k * bs)).take bs)
theorem segF_app {K : Int → Int} {bs s t : Nat} {P Z : List Int} (h : SegF K bs s P) (hP : P.length = t * bs) (hZ : OkS K (s + t * bs) Z) (hl : Z.length ≤ bs) : SegF K bs s (P ++ Z) := by
  intro k hk
  rw [List.length_append] at hk
  rcases Nat.lt_trichotomy k t with g | g | g
  · have e : k * bs + bs ≤ P.length := by
      rw [hP, ← Nat.succ_mul]
      exact Nat.mul_le_mul_right _ g
    by_cases hb : bs = 0
    · subst hb
      simp only [Nat.mul_zero] at hP hk e
      omega
    · rw [List.drop_append_of_le_length (by omega), List.take_append_of_le_length (by rw [List.length_drop]; omega)]
      exact h k (by omega)
  · subst g
    rw [← hP, List.drop_left, List.take_of_length_le hl, hP]
    exact hZ
  · have e : t * bs + bs ≤ k * bs := by rw [← Nat.succ_mul]; exact Nat.mul_le_mul_right _ g
    omega
theorem segF_one {K : Int → Int} {bs s : Nat} {R : List Int} (h : SegF K bs s R) (hl : R.length ≤ bs) : OkS K s R := by
  by_cases h0 : 0 < R.length
  · have := h 0 (by simpa using h0)
    simpa [List.take_of_length_le hl] using this
  · have : R = [] := List.eq_nil_of_length_eq_zero (by omega)
    subst this
    exact okS_nil K s
theorem segF_two {K : Int → Int} {bs s : Nat} {R : List Int} (h : SegF K bs s R) (hb : 0 < bs) (hl : bs < R.length) : OkS K s (R.take bs) ∧ OkS K (s + bs) ((R.drop bs).take bs) ∧ SegF K bs (s + 2 * bs) (R.drop (2 * bs)) := by
  refine ⟨by simpa using h 0 (by simp; omega), by simpa using h 1 (by simpa using hl), fun k hk => ?_⟩
  rw [List.length_drop] at hk
  have h2 := h (k + 2) (by rw [Nat.add_mul]; omega)
  rw [List.drop_drop]
  rw [Nat.add_mul] at h2
  rw [show s + 2 * bs + k * bs = s + (k * bs + 2 * bs) by omega, show 2 * bs + k * bs = k * bs + 2 * bs by omega]
  exact h2
theorem segF_nil (K : Int → Int) (bs s : Nat) : SegF K bs s [] := fun k hk => by simp at hk
theorem okS_iota {K : Int → Int} {s m : Nat} {Z : List Int} (hp : Z.Perm (iotaS s m)) (hs : Srt K Z) : OkS K s Z := by
  refine ⟨?_, hs⟩
  have : Z.length = m := by rw [hp.length_eq, iotaS_length]
  rw [this]
  exact hp
theorem iotaS_bd {s m : Nat} : ∀ z ∈ iotaS s m, (s : Int) < z ∧ z ≤ s + m := by
  intro z hz
  unfold iotaS at hz
  simp only [List.mem_map, List.mem_range'_1] at hz
  obtain ⟨k, ⟨h1, h2⟩, rfl⟩ := hz
  omega
def InP (n : Nat) (x : Int) : Prop := 1 ≤ x ∧ x ≤ n
def GaveSt (w : World) (base g n c : Nat) (K : Int → Int) (e : Ending) (w' : World) : Prop := ∃ Z, OkS K 0 Z ∧ Sorts w base g n c Z e w'
theorem OkS.inP {K : Int → Int} {s n : Nat} {x : List Int} (h : OkS K s x) (hl : s + x.length ≤ n) : ∀ z ∈ x, InP n z := fun z hz => by
  have := h.bd z hz
  unfold InP
  omega
set_option maxRecDepth 100000 in
set_option maxHeartbeats 2000000 in
theorem stable_any (base g n c : Nat) (gf : Nat) (ob : Value) (K : Int → Int) (w : World) (h : AtG w base g n c (iotaS 0 n)) (hcmp : CmpAt w g gf ob K (InP n)) (hn : n ≤ 1000000) :
    Calls Try.prog 89 #[.slice (some ⟨g, 0, none⟩) n c, .int .i64 n, .func (.func gf) #[ob] #[]] w (GaveSt w base g n c K) := by
  have h0 : ∃ t P a b, a = t * 20 ∧ b = a + 20 ∧ a ≤ n ∧ P.length = a ∧ SegF K 20 0 P ∧ AtG w base g n c (P ++ iotaS a (n - a)) ∧ Value.int .i64 0 = .int .i64 ((a : Nat) : Int) ∧ Value.int .i64 20 = .int .i64 ((b : Nat) : Int) :=
    ⟨0, [], 0, 20, rfl, rfl, Nat.zero_le _, rfl, segF_nil _ _ _, by simpa using h, rfl, rfl⟩
  have HCMP := Lib.hid hcmp
  have HN := Lib.hid hn
  have H0 := Lib.hid h0
  clear h hcmp h0
  go_enter Try.func89, Try.ntmps89
  go_wp2
  go_loopw [7, 8] (fun va vb wr => (∃ t P a b, a = t * 20 ∧ b = a + 20 ∧ a ≤ n ∧ P.length = a ∧ SegF K 20 0 P ∧ AtG wr base g n c (P ++ iotaS a (n - a)) ∧ va = .int .i64 ((a : Nat) : Int) ∧ vb = .int .i64 ((b : Nat) : Int)) ∧ Chg (fun q => q = g) w wr) (fun va _ _ => n + 1 - (intOf va).toNat)
  case atStart => exact ⟨H0.out, Chg.refl _ _⟩
  case round =>
    obtain ⟨⟨t, P, a, b, ha, hb, han, hP, hS, hG, rfl, rfl⟩, hC⟩ := hrel
    by_cases hlt : b ≤ n
    · have hd : decide (b ≤ n) = true := decide_eq_true hlt
      have hX : iotaS a (n - a) = iotaS a 20 ++ iotaS (a + 20) (n - b) := by rw [show n - a = 20 + (n - b) by omega, iotaS_app]
      rw [hX] at hG
      have hin := insert_any base g n c P (iotaS a 20) (iotaS (a + 20) (n - b)) a b gf ob K (InP n) wr hG hP.symm (by rw [iotaS_length]; omega) (iotaS_lt _ _) (fun z hz => (by have := iotaS_bd z hz; unfold InP; omega)) (HCMP.out.of hC) hn
      have k1 : IntKind.i64.wrap ((b : Int) + 20) = ((b + 20 : Nat) : Int) := by rw [IntWalk.i64_in _ (by omega)]; omega
      have HC := Lib.hid hC
      have HJ := Lib.hid (And.intro ha (And.intro hb (And.intro hP (And.intro hlt hS))))
      clear ha hb han hP hS hG hC hlt hX hn
      go_wp2_with fail
      refine hin.mono ?_
      clear hin
      rintro e9 w2 ⟨Z, hp, hz, rfl, hG2, hC2⟩
      have HZ := Lib.hid (show (P ++ Z).length = b ∧ SegF K 20 0 (P ++ Z) ∧ AtG w2 base g n c ((P ++ Z) ++ iotaS b (n - b)) ∧ Chg (fun q => q = g) w w2 from by
        obtain ⟨ha, hb, hP, hlt, hS⟩ := HJ.out
        have hl := hp.length_eq
        rw [iotaS_length] at hl
        refine ⟨by rw [List.length_append]; omega, segF_app (t := t) hS (by omega) (by rw [Nat.zero_add, ← ha]; exact okS_iota hp hz) (by omega), ?_, chg_g HC.out hC2⟩
        rw [List.append_assoc, hb]
        rw [hb] at hG2
        exact hG2)
      clear hp hz hG2 hC2
      go_wp2
      go_roundw
      case rel => exact ⟨⟨t + 1, P ++ Z, b, b + 20, by have := HJ.out; omega, rfl, HJ.out.2.2.2.1, HZ.out.1, HZ.out.2.1, HZ.out.2.2.1, rfl, rfl⟩, HZ.out.2.2.2⟩
      case measure =>
        have h1 := HJ.out
        simp only [intOf]
        omega
    · have hd : decide (b ≤ n) = false := decide_eq_false hlt
      have hin := insert_any base g n c P (iotaS a (n - a)) [] a n gf ob K (InP n) wr (by rw [List.append_nil]; exact hG) hP.symm (by rw [iotaS_length]; omega) (iotaS_lt _ _) (fun z hz => (by have := iotaS_bd z hz; unfold InP; omega)) (HCMP.out.of hC) hn
      have HC := Lib.hid hC
      have HJ := Lib.hid (And.intro ha (And.intro hb (And.intro hP (And.intro (And.intro hlt han) hS))))
      clear ha hb han hP hS hG hC hlt hn H0
      go_wp2_with fail
      refine hin.mono ?_
      clear hin
      rintro e9 w2 ⟨Z, hp, hz, rfl, hG2, hC2⟩
      have h1 : ∃ bs D, 20 ≤ bs ∧ bs ≤ 2000000 ∧ D.length = n ∧ SegF K bs 0 D ∧ AtG w2 base g n c D ∧ Value.int .i64 20 = .int .i64 ((bs : Nat) : Int) := by
        obtain ⟨ha, hb, hP, hlt, hS⟩ := HJ.out
        have hl := hp.length_eq
        rw [iotaS_length] at hl
        rw [List.append_nil] at hG2
        exact ⟨20, P ++ Z, Nat.le_refl _, by omega, by rw [List.length_append]; omega, segF_app (t := t) hS (by omega) (by rw [Nat.zero_add, ← ha]; exact okS_iota hp hz) (by omega), hG2, rfl⟩
      have H1 := Lib.hid h1
      have HC2 := Lib.hid (chg_g HC.out hC2)
      clear h1 hp hz hG2 hC2
      go_wp2
      go_loopw [6] (fun v6 wr => (∃ bs D, 20 ≤ bs ∧ bs ≤ 2000000 ∧ D.length = n ∧ SegF K bs 0 D ∧ AtG wr base g n c D ∧ v6 = .int .i64 ((bs : Nat) : Int)) ∧ Chg (fun q => q = g) w wr) (fun v6 _ => n - (intOf v6).toNat)
      case atStart => exact ⟨H1.out, HC2.out⟩
      case round =>
        obtain ⟨⟨bs, D, hbs, hbb, hD, hS, hG, rfl⟩, hC⟩ := hrel
        clear H1 HC2 HC HJ
        by_cases hlt : bs < n
        · have hd : decide (bs < n) = true := decide_eq_true hlt
          have hn := HN.out
          have k1 : IntKind.i64.wrap (2 * (bs : Int)) = ((2 * bs : Nat) : Int) := by rw [IntWalk.i64_in _ (by omega)]; omega
          have k2 : IntKind.i64.wrap ((bs : Int) * 2) = ((2 * bs : Nat) : Int) := by rw [IntWalk.i64_in _ (by omega)]; omega
          obtain ⟨b2, hb2⟩ : ∃ b2, 2 * bs = b2 := ⟨_, rfl⟩
          rw [hb2] at k1 k2
          have h2 : ∃ t P R a b, a = t * b2 ∧ b = a + b2 ∧ a ≤ n ∧ P.length = a ∧ R.length = n - a ∧ SegF K b2 0 P ∧ SegF K bs a R ∧ AtG wr base g n c (P ++ R) ∧ Value.int .i64 0 = .int .i64 ((a : Nat) : Int) ∧ Value.int .i64 (b2 : Int) = .int .i64 ((b : Nat) : Int) :=
            ⟨0, [], D, 0, b2, by omega, by omega, Nat.zero_le _, rfl, by omega, segF_nil _ _ _, hS, hG, rfl, rfl⟩
          have H2 := Lib.hid h2
          have HC := Lib.hid hC
          have HB := Lib.hid (And.intro hb2 (And.intro hbs (And.intro hlt hn)))
          clear h2 hbs hbb hD hS hG hC hlt hb2 hn
          go_wp2
          obtain ⟨wo, rfl⟩ : ∃ wo : World, wo = wr := ⟨_, rfl⟩
          go_loopw [7, 8] (fun va vb wr => (∃ t P R a b, a = t * b2 ∧ b = a + b2 ∧ a ≤ n ∧ P.length = a ∧ R.length = n - a ∧ SegF K b2 0 P ∧ SegF K bs a R ∧ AtG wr base g n c (P ++ R) ∧ va = .int .i64 ((a : Nat) : Int) ∧ vb = .int .i64 ((b : Nat) : Int)) ∧ Chg (fun q => q = g) wo wr) (fun va _ _ => n + 1 - (intOf va).toNat)
          case atStart => exact ⟨H2.out, Chg.refl _ _⟩
          case round =>
            clear H2
            obtain ⟨⟨t, P, R, a, b, ha, hb, han, hP, hR, hS, hT, hG, rfl, rfl⟩, hCw⟩ := hrel
            obtain ⟨hb2, hbs, hbn, hn⟩ := HB.out
            obtain ⟨m, hm⟩ : ∃ m, a + bs = m := ⟨_, rfl⟩
            have k3 : IntKind.i64.wrap ((a : Int) + (bs : Int)) = (m : Int) := by rw [IntWalk.i64_in _ (by omega)]; omega
            have k4 : IntKind.i64.wrap ((b : Int) + (b2 : Int)) = ((b + b2 : Nat) : Int) := by rw [IntWalk.i64_in _ (by omega)]; omega
            by_cases hlt : b ≤ n
            · have hd : decide (b ≤ n) = true := decide_eq_true hlt
              obtain ⟨q1, q2, q3⟩ := segF_two hT (by omega) (by omega)
              have l1 : (R.take bs).length = bs := by rw [List.length_take]; omega
              have l2 : ((R.drop bs).take bs).length = bs := by rw [List.length_take, List.length_drop]; omega
              have eR : R = R.take bs ++ ((R.drop bs).take bs ++ R.drop (2 * bs)) := by
                conv => lhs; rw [← List.take_append_drop bs R, ← List.take_append_drop bs (R.drop bs), List.drop_drop]
                rw [show bs + bs = 2 * bs by omega]
              have l3 : (R.drop (2 * bs)).length = n - b := by rw [List.length_drop]; omega
              rw [eR] at hG
              generalize R.take bs = u at *
              generalize (R.drop bs).take bs = v at *
              generalize R.drop (2 * bs) = R2 at *
              have hsy := sym_any base g n c gf ob K (InP n) hn (bs + bs) P u v R2 a m b wr (by omega) (by omega) (by omega) hG hP.symm (by omega) (by omega) q1.2 q2.2 (q1.ahead (by rw [l1]; exact q2)) (q1.inP (by omega)) (q2.inP (by omega)) (HCMP.out.of (chg_g HC.out hCw))
              have HJ := Lib.hid (And.intro (And.intro ha (And.intro hb hP)) (And.intro (And.intro q1 q2) (And.intro (And.intro l1 (And.intro l2 l3)) (And.intro q3 (And.intro hS hlt)))))
              have HCw := Lib.hid hCw
              clear ha hb han hP hR hS hT hG hCw hb2 hbs hbn hn hm hlt q1 q2 q3 l1 l2 l3 eR
              go_wp2_with fail
              refine hsy.mono ?_
              clear hsy
              rintro e9 w3 ⟨Z, hp, hz, rfl, hG3, hC3⟩
              have HZ := Lib.hid (show (P ++ Z).length = b ∧ SegF K b2 0 (P ++ Z) ∧ SegF K bs b R2 ∧ R2.length = n - b ∧ AtG w3 base g n c ((P ++ Z) ++ R2) ∧ Chg (fun q => q = g) wo w3 from by
                obtain ⟨⟨ha, hb, hP⟩, ⟨q1, q2⟩, ⟨l1, l2, l3⟩, q3, hS, hlt⟩ := HJ.out
                obtain ⟨hb2, hbs, hbn, hn⟩ := HB.out
                have hl := hp.length_eq
                rw [List.length_append] at hl
                refine ⟨by rw [List.length_append]; omega, segF_app (t := t) hS (by omega) (by rw [Nat.zero_add, ← ha]; exact okS_app q1 (by rw [l1]; exact q2) hp hz) (by omega), ?_, l3, by rw [List.append_assoc]; exact hG3, chg_g HCw.out hC3⟩
                rw [hb, ← hb2]; exact q3)
              clear hp hz hG3 hC3
              go_wp2
              go_roundw
              case rel => exact ⟨⟨t + 1, P ++ Z, R2, b, b + b2, by have := HJ.out.1; rw [Nat.add_mul]; omega, rfl, HJ.out.2.2.2.2.2, HZ.out.1, HZ.out.2.2.2.1, HZ.out.2.1, HZ.out.2.2.1, HZ.out.2.2.2.2.1, rfl, rfl⟩, HZ.out.2.2.2.2.2⟩
              case measure =>
                have h1 := HJ.out.1
                have h3 := HJ.out.2.2.2.2.2
                have h2 := HB.out
                simp only [intOf]
                omega
            · have hd : decide (b ≤ n) = false := decide_eq_false hlt
              by_cases hmn : m < n
              · have hd2 : decide (m < n) = true := decide_eq_true hmn
                obtain ⟨q1, q2, q3⟩ := segF_two hT (by omega) (by omega)
                have l1 : (R.take bs).length = bs := by rw [List.length_take]; omega
                rw [List.take_of_length_le (l := R.drop bs) (by rw [List.length_drop]; omega)] at q2
                have l2 : (R.drop bs).length = n - m := by rw [List.length_drop]; omega
                rw [← List.take_append_drop bs R] at hG
                generalize R.take bs = u at *
                generalize R.drop bs = v at *
                have hsy := sym_any base g n c gf ob K (InP n) hn (bs + bs) P u v [] a m n wr (by omega) (by omega) (by omega) (by rw [List.append_nil]; exact hG) hP.symm (by omega) (by omega) q1.2 q2.2 (q1.ahead (by rw [l1]; exact q2)) (q1.inP (by omega)) (q2.inP (by omega)) (HCMP.out.of (chg_g HC.out hCw))
                have HJ := Lib.hid (And.intro (And.intro ha (And.intro hb hP)) (And.intro (And.intro q1 q2) (And.intro (And.intro l1 l2) (And.intro hS (And.intro hm (And.intro hmn hlt))))))
                have HCw := Lib.hid hCw
                clear ha hb han hP hR hS hT hG hCw hb2 hbs hbn hn hm hlt q1 q2 q3 l1 l2 hmn
                go_wp2_with fail
                refine hsy.mono ?_
                clear hsy
                rintro e9 w3 ⟨Z, hp, hz, rfl, hG3, hC3⟩
                have HZ := Lib.hid (show (P ++ Z).length = n ∧ SegF K b2 0 (P ++ Z) ∧ AtG w3 base g n c (P ++ Z) ∧ Chg (fun q => q = g) w w3 from by
                  obtain ⟨⟨ha, hb, hP⟩, ⟨q1, q2⟩, ⟨l1, l2⟩, hS, hm, hmn, hlt⟩ := HJ.out
                  obtain ⟨hb2, hbs, hbn, hn⟩ := HB.out
                  have hl := hp.length_eq
                  rw [List.length_append] at hl
                  rw [List.append_nil] at hG3
                  exact ⟨by rw [List.length_append]; omega, segF_app (t := t) hS (by omega) (by rw [Nat.zero_add, ← ha]; exact okS_app q1 (by rw [l1]; exact q2) hp hz) (by omega), hG3, chg_g (chg_g HC.out HCw.out) hC3⟩)
                clear hp hz hG3 hC3
                go_wp2
                go_roundw
                case rel => exact ⟨⟨b2, P ++ Z, by have := HB.out; omega, by have := HB.out; omega, HZ.out.1, HZ.out.2.1, HZ.out.2.2.1, rfl⟩, HZ.out.2.2.2⟩
                case measure =>
                  have h2 := HB.out
                  simp only [intOf]
                  omega
              · have hd2 : decide (m < n) = false := decide_eq_false hmn
                have HZ := Lib.hid (show (P ++ R).length = n ∧ SegF K b2 0 (P ++ R) ∧ AtG wr base g n c (P ++ R) ∧ Chg (fun q => q = g) w wr from
                  ⟨by rw [List.length_append]; omega, segF_app (t := t) hS (by omega) (by rw [Nat.zero_add, ← ha]; exact segF_one hT (by omega)) (by omega), hG, chg_g HC.out hCw⟩)
                clear ha hb han hP hR hS hT hG hCw hb2 hbs hbn hn hm hlt hmn
                go_wp2
                go_roundw
                case rel => exact ⟨⟨b2, P ++ R, by have := HB.out; omega, by have := HB.out; omega, HZ.out.1, HZ.out.2.1, HZ.out.2.2.1, rfl⟩, HZ.out.2.2.2⟩
                case measure =>
                  have h2 := HB.out
                  simp only [intOf]
                  omega
        · have hd : decide (bs < n) = false := decide_eq_false hlt
          have HZ := Lib.hid (show GaveSt w base g n c K (.returned (.tuple #[])) wr from ⟨D, segF_one hS (by omega), rfl, hG, hC⟩)
          clear hbs hbb hD hS hG hC hlt
          go_wp2
          go_end0
          exact HZ.out
theorem sortStable_any (base g n c : Nat) (gf : Nat) (ob : Value) (K : Int → Int) (w : World) (h : AtG w base g n c (iotaS 0 n)) (hcmp : CmpAt w g gf ob K (InP n)) (hn : n ≤ 1000000) :
    Calls Try.prog 56 #[.slice (some ⟨g, 0, none⟩) n c, .func (.func gf) #[ob] #[]] w (GaveSt w base g n c K) := by
  have hst := stable_any base g n c gf ob K w h hcmp hn
  clear h hcmp
  go_enter Try.func56, Try.ntmps56
  go_wp2_with fail
  refine hst.mono ?_
  clear hst
  rintro e9 w2 ⟨Z, hz, rfl, hG, hC⟩
  have HZ := Lib.hid (show GaveSt w base g n c K (.returned (.tuple #[])) w2 from ⟨Z, hz, rfl, hG, hC⟩)
  clear hz hG hC
  go_wp2
  go_end0
  exact HZ.out
end Go.Proofs.Ytnjnajbdpaaikaa
