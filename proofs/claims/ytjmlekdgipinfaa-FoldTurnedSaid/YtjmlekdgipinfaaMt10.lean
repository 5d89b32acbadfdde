/- The document's places: the place of a number, and the number of a place. -/
import Derived.Test.YtjmlekdgipinfaaMt8
namespace Go.Proofs.Ytjmlekdgipinfaa
open Go.RowKit Go.Shelf

theorem drop_cons' {s : List Int} {j : Nat} (h : j < s.length) : s.drop j = s[j] :: s.drop (j + 1) := List.drop_eq_getElem_cons h
def GaveLB (w : World) (xs : List Int) (b : Bool) (e : Ending) (w' : World) : Prop := ∃ v', e = .returned (.tuple #[v', .bool b]) ∧ Own w' w.heap.size 3 v' xs ∧ Chg (fun _ => False) w w'
/-- A step of the reckoning of a place. -/
theorem at_step {s : List Int} {j : Nat} (hj : j < s.length) (n : Int) (hs : ∀ l ∈ s, 0 < l) (h0 : 0 ≤ n) (hn : n ≤ 4096) :
    atL (s.drop j) n = (n / prodL (s.drop (j + 1))) % s[j] :: atL (s.drop (j + 1)) n ∧ (n / prodL (s.drop (j + 1))) / s[j] = n / prodL (s.drop j) ∧
    0 ≤ n / prodL (s.drop (j + 1)) ∧ n / prodL (s.drop (j + 1)) ≤ 4096 := by
  have hd : ∀ l ∈ s.drop (j + 1), 0 ≤ l := fun l hl => Int.le_of_lt (hs l (List.mem_of_mem_drop hl))
  have hp := prodL_nonneg _ hd
  refine ⟨by rw [drop_cons' hj]; rfl, ?_, Int.ediv_nonneg h0 hp, ?_⟩
  · rw [drop_cons' hj, prodL, Int.ediv_ediv_of_nonneg hp, Int.mul_comm]
  · exact Int.le_trans (Int.ediv_le_self _ h0) hn
set_option maxRecDepth 100000 in
set_option maxHeartbeats 1000000 in
theorem r11at_any (v : Value) (s : List Int) (n : Int) (w : World) (hS : Ls w v s) (hsh : shB s = true) (h0 : 0 ≤ n) (h1 : n < prodL s) : Calls Try.prog 75 #[v, .int .i64 n] w (GaveLB w (atL s n) true) := by
  obtain ⟨ao, c, rfl, _⟩ := hS.form
  obtain ⟨i0, hi, hz0, hz1, hz2⟩ := info_parts info_int
  have hs := shB_iff.1 hsh
  have hpos := pos_of_prod (s := s) (fun l hl => (hs.2.1 l hl).1) (by omega)
  have hn4 : n ≤ 4096 := by have := hs.2.2; omega
  have hlen := hs.1
  have hcnt := r11count_any _ s w hS
  unfold GaveC at hcnt
  rw [cntN_ok hsh, cntE_ok hsh] at hcnt
  obtain ⟨P, hP⟩ : ∃ P, prodL s = P := ⟨_, rfl⟩
  rw [hP] at hcnt h1
  have b1 : ¬ n < 0 := by omega
  have b2 : ¬ P ≤ n := by omega
  have HS := Lib.hid hS
  have HP := Lib.hid hpos
  have hb4 : ∀ l ∈ s, l ≤ 4096 := fun l hl => (hs.2.1 l hl).2
  have HB := Lib.hid hb4
  have hwl : IntKind.i64.wrap ((s.length : Int) - 1) = (s.length : Int) - 1 := IntWalk.i64_in _ (by omega)
  clear hS hs hpos hb4 hP
  go_enter Try.func75, Try.ntmps75
  go_wp2_with fail
  refine hcnt.mono ?_
  clear hcnt
  rintro e9 w1 ⟨rfl, rfl⟩
  go_wp2
  go_loopw [1, 8, 9] (fun nn out i wr => ∃ (j k : Nat) (q : Int), j + k = s.length ∧ i = .int .i64 q ∧ q = (j : Int) - 1 ∧ (∃ N, N = n / prodL (s.drop j) ∧ nn = .int .i64 N) ∧ Own wr w1.heap.size 3 out (atL (s.drop j) n) ∧ Chg (fun _ => False) w1 wr) (fun _ _ i _ => (intOf i + 1).toNat)
  case atStart => exact ⟨s.length, 0, _, rfl, rfl, by first | rfl | simp, ⟨n, by rw [List.drop_length]; simp [prodL], rfl⟩, by rw [List.drop_length]; exact Own.nil _ _ _, Chg.refl _ _⟩
  case round =>
    obtain ⟨j, k, q, hjk, rfl, hq, ⟨N, hN, rfl⟩, hown, hC⟩ := hrel
    obtain ⟨xs, hxs⟩ : ∃ xs, atL (s.drop j) n = xs := ⟨_, rfl⟩
    have hxl : xs.length ≤ 4 := by rw [← hxs, atL_length]; simp; omega
    rw [hxs] at hown
    obtain ⟨al, L, cl, rfl, hL⟩ := owns_name hown
    by_cases hlt : 0 < j
    · obtain ⟨i, rfl⟩ : ∃ i, j = i + 1 := ⟨j - 1, by omega⟩
      obtain rfl : q = (i : Int) := by omega
      have hil : i < s.length := by omega
      obtain ⟨g1, g2, g3, g4⟩ := at_step hil n HP.out h0 hn4
      rw [hxs, ← hN] at g1
      rw [← hN] at g2 g3 g4
      obtain ⟨b, o, c', e1, hc⟩ := (HS.out.fr hC).at hil
      injection e1 with e1 e2 e3
      clear e2 e3
      subst e1
      have hx0 := HP.out _ (List.getElem_mem hil)
      have hx1 := HB.out _ (List.getElem_mem hil)
      generalize s[i] = x at *
      obtain ⟨r, hr⟩ : ∃ r, N % x = r := ⟨_, rfl⟩
      obtain ⟨d, hd⟩ : ∃ d, N / x = d := ⟨_, rfl⟩
      have hd0 : 0 ≤ d := by rw [← hd]; exact Int.ediv_nonneg g3 (by omega)
      have hd1 : d ≤ 4096 := by rw [← hd]; exact Int.le_trans (Int.ediv_le_self _ g3) g4
      have e4 : Int.tmod N x = r := by rw [Int.tmod_eq_emod_of_nonneg g3]; exact hr
      have e5 : Int.tdiv N x = d := by rw [Int.tdiv_eq_ediv_of_nonneg g3]; exact hd
      have e6 : IntKind.i64.wrap d = d := IntWalk.i64_in _ (by omega)
      have e7 : wrap64 d = d := by rw [show wrap64 d = IntKind.i64.wrap d by rw [IntKind.wrap_i64, wrap64]]; exact e6
      have e8 : IntKind.i64.wrap ((i : Int) - 1) = (i : Int) - 1 := IntWalk.i64_in _ (by omega)
      rw [hr] at g1
      rw [hd] at g2
      have G1 := Lib.hid g1
      have G2 := Lib.hid g2
      have HO := Lib.hid hown
      have HC := Lib.hid hC
      have hx2 : ¬ x = 0 := by omega
      have hi0 : (0 : Int) ≤ (i : Int) := by omega
      have hi1 : (i : Int) < (s.length : Int) := by omega
      have hll : L = xs.length := hL.out
      have HLL := Lib.hid hll
      have HJK := Lib.hid hjk
      have hLb : L ≤ 4 := by rw [hll]; exact hxl
      have hm1 : w1.heap.size ≤ wr.heap.size := hC.size
      clear hq hxs g1 g2 hown hC hN hjk hll
      go_wp2_with (refine wpList_append_own_any (by rfl) (.tmp 39) (.tmp 40) 22 (by rfl) w1.heap.size 3 i0 (.int .i64 0) 1 8 Try.underlying22 hi hz0 hz1 hz2 rfl (by decide) (.slice (some ⟨wr.heap.size, 0, none⟩) 1 1) 1 [.int .i64 r] (by rfl) ((own_lit wr 3 [r] 1 rfl _ rfl (by simp)).mono hm1) al L cl (xs.map I) (by rfl) (by rw [List.length_map, Nat.mul_one]; exact HLL.out.symm) (HO.out.ls.fr ((Chg.refl _ _).alloc _)).src (I_one xs) (by unfold maxLen; omega) (by omega) (by simp; omega) ?_; intro v2 w2 hown2 hg2 _ hO2; have hC2 : Chg (fun _ => False) wr w2 := ((Chg.refl _ wr).alloc _).grown hg2 (fun k e => .inr (by simp [Value.ownBlock] at e; omega)); have hc2 := hC2.cell hc id; obtain ⟨al2, L2, cl2, rfl, hL2⟩ := owns_name hown2)
      go_roundw
      case rel =>
        refine ⟨i, k + 1, _, by have := HJK.out; omega, rfl, rfl, ⟨_, G2.out, rfl⟩, ?_, HC.out.tr hC2⟩
        rw [G1.out]
        have h := hown2
        unfold Own
        rw [List.length_cons, ← HLL.out, Nat.add_comm]
        exact h
      case measure => first | (simp [intOf]; done) | (simp [intOf]; omega)
    · obtain rfl : j = 0 := by omega
      obtain rfl : q = -1 := by omega
      rw [List.drop_zero] at hxs
      have HX := Lib.hid hxs
      clear hxs hN hq hjk
      go_wp2
      go_ret2
      exact ⟨_, rfl, by rw [HX.out]; exact hown, hC⟩
def plB (s xs : List Int) : Bool := shB s && inL s xs
def plN (s xs : List Int) : Int := if plB s xs then plL s xs else 0
theorem inL_take : ∀ {s xs : List Int} {k : Nat}, k < s.length → (h : k < xs.length) → inL (s.take k) (xs.take k) = true → ∀ (h1 : k < s.length), inL (s.take (k + 1)) (xs.take (k + 1)) = (decide (0 ≤ xs[k]) && decide (xs[k] < s[k]))
  | a :: r, x :: xs, 0, _, _, _, _ => by simp [inL]
  | a :: r, x :: xs, k + 1, h1, h2, h3, h4 => by
    simp only [List.take_succ_cons, inL, Bool.and_eq_true] at h3 ⊢
    have := inL_take (s := r) (xs := xs) (k := k) (by simpa using h1) (by simpa using h2) h3.2.2 (by simpa using h4)
    rw [this, h3.1, h3.2.1]
    simp
theorem inL_pre {s xs : List Int} (h : inL s xs = true) (k : Nat) : inL (s.take k) (xs.take k) = true := by
  rw [inL_iff] at h ⊢
  obtain ⟨h1, h2⟩ := h
  refine ⟨by rw [List.length_take, List.length_take, h1], fun i x l hx hl => ?_⟩
  rw [List.getElem?_take] at hx hl
  split at hx
  · rw [if_pos (by assumption)] at hl
    exact h2 i x l hx hl
  · cases hx
def GavePl (w : World) (s xs : List Int) (e : Ending) (w' : World) : Prop := GaveIB w (plN s xs) (plB s xs) e w'
theorem plB_bad {s xs : List Int} {k : Nat} (h1 : k < s.length) (h2 : k < xs.length) (h : xs[k] < 0 ∨ s[k] ≤ xs[k]) : plB s xs = false := by
  rw [Bool.eq_false_iff]
  intro hp
  unfold plB at hp
  rw [Bool.and_eq_true] at hp
  have := (inL_iff.1 hp.2).2 k _ _ (List.getElem?_eq_getElem h2) (List.getElem?_eq_getElem h1)
  omega
theorem plN_not {s xs : List Int} (h : plB s xs = false) : plN s xs = 0 := if_neg (by simp [h])
theorem plN_ok {s xs : List Int} (h : plB s xs = true) : plN s xs = plL s xs := if_pos h
theorem plL_take {s xs : List Int} {k : Nat} (h1 : k < s.length) (h2 : k < xs.length) : plL (s.take (k + 1)) (xs.take (k + 1)) = plL (s.take k) (xs.take k) * s[k] + xs[k] := by
  rw [List.take_succ_eq_append_getElem h1, List.take_succ_eq_append_getElem h2, plL_append _ _ _ _ (by rw [List.length_take, List.length_take]; omega), plL_one]
  simp [prodL]
set_option maxRecDepth 100000 in
set_option maxHeartbeats 2000000 in
theorem r11place_any (u v : Value) (s xs : List Int) (w : World) (hS : Ls w u s) (hX : Ls w v xs) : Calls Try.prog 76 #[u, v] w (GavePl w s xs) := by
  obtain ⟨ao, c, rfl, _⟩ := hS.form
  obtain ⟨ax, cx, rfl, _⟩ := hX.form
  have hcnt := r11count_any _ s w hS
  have hlx := hX.len
  have HS := Lib.hid hS
  have HX := Lib.hid hX
  unfold GaveC at hcnt
  rcases cntE_cases s with ⟨h1, h2, h3⟩ | ⟨h1, h2, h3⟩
  · rw [h2, h3] at hcnt
    have hs := shB_iff.1 h1
    have hlen := hs.1
    by_cases hl : xs.length = s.length
    · have b1 : ((xs.length : Int) != (s.length : Int)) = false := by rw [bne_eq_false_iff_eq]; omega
      have HL := Lib.hid hl
      have HSH := Lib.hid h1
      have HB := Lib.hid hs.2.1
      generalize prodL s = P at *
      clear hS hX h1 h2 h3 hs hl
      go_enter Try.func76, Try.ntmps76
      go_wp2_with fail
      refine hcnt.mono ?_
      clear hcnt
      rintro e9 w1 ⟨rfl, rfl⟩
      go_wp2
      go_loopw [8, 9] (fun nn i wr => ∃ k : Nat, k ≤ s.length ∧ i = .int .i64 k ∧ (∃ N, N = plL (s.take k) (xs.take k) ∧ nn = .int .i64 N) ∧ inL (s.take k) (xs.take k) = true ∧ Chg (fun _ => False) w1 wr) (fun _ i _ => s.length - (intOf i).toNat)
      case atStart => exact ⟨0, Nat.zero_le _, rfl, ⟨0, rfl, rfl⟩, rfl, Chg.refl _ _⟩
      case round =>
        obtain ⟨k, hk, rfl, ⟨N, hN, rfl⟩, hin, hC⟩ := hrel
        by_cases hlt : k < s.length
        · have hx2 : k < xs.length := by have := HL.out; omega
          have hkw : IntKind.i64.wrap ((k : Int) + 1) = (k : Int) + 1 := IntWalk.i64_in _ (by omega)
          have hi0 : (0 : Int) ≤ (k : Int) := by omega
          have hi1 : (k : Int) < (s.length : Int) := by omega
          have hi2 : (k : Int) < (xs.length : Int) := by omega
          obtain ⟨b, o, c', e1, hc⟩ := (HS.out.fr hC).at hlt
          obtain ⟨bx, ox, cx', e2, hcx⟩ := (HX.out.fr hC).at hx2
          injection e1 with e1 e3 e4
          injection e2 with e2 e5 e6
          clear e3 e4 e5 e6
          subst e1 e2
          have hbad := plB_bad hlt hx2
          have hinx := inL_take hlt hx2 hin hlt
          have hpx := plL_take hlt hx2
          have hbd := plL_bd (s := s.take k) (xs := xs.take k) (fun l hl => (HB.out l (List.mem_of_mem_take hl)).1) hin
          have hple := prodL_le (s.take k) (fun l hl => HB.out l (List.mem_of_mem_take hl))
          have hbs := HB.out _ (List.getElem_mem hlt)
          rw [← hN] at hpx hbd
          have hP4 : prodL (s.take k) ≤ 68719476736 := by
            have h3 : (s.take k).length ≤ 3 := by rw [List.length_take]; omega
            have := Nat.pow_le_pow_right (n := 4096) (by decide) h3
            have e2 : ∀ m : Nat, (4096 : Int) ^ m = ((4096 ^ m : Nat) : Int) := fun m => by rw [Int.natCast_pow]; rfl
            rw [e2] at hple
            omega
          generalize s[k] = a at *
          generalize xs[k] = x at *
          have hCd := hC.drew
          by_cases hx0 : x < 0
          · have HR := Lib.hid (hbad (.inl hx0))
            have d0 : decide (x < 0) = true := decide_eq_true hx0
            clear hbad hinx hpx hN hin hbd hple hbs
            go_wp2
            go_quiet (fail)
            go_wp2
            go_ret2
            exact ⟨by rw [plN_not HR.out, HR.out]; rfl, by first | exact hC.drewN _ | exact hCd⟩
          · have d0 : decide (x < 0) = false := decide_eq_false hx0
            by_cases hxa : a ≤ x
            · have HR := Lib.hid (hbad (.inr hxa))
              have d1 : decide (a ≤ x) = true := decide_eq_true hxa
              clear hbad hinx hpx hN hin hbd hple hbs
              go_wp2
              go_quiet (fail)
              go_wp2
              go_ret2
              exact ⟨by rw [plN_not HR.out, HR.out]; rfl, by first | exact hC.drewN _ | exact hCd⟩
            · have d1 : decide (a ≤ x) = false := decide_eq_false hxa
              have hNa : 0 ≤ N * a ∧ N * a ≤ 281474976710656 := by
                refine ⟨Int.mul_nonneg hbd.1 (by omega), ?_⟩
                have h1 : N * a ≤ 68719476736 * 4096 := Int.mul_le_mul (by omega) hbs.2 (by omega) (by decide)
                omega
              have hw1 : IntKind.i64.wrap (N * a) = N * a := IntWalk.i64_in _ (by omega)
              have hw2 : IntKind.i64.wrap (N * a + x) = N * a + x := IntWalk.i64_in _ (by omega)
              have HIN := Lib.hid (hinx.trans (by rw [decide_eq_true (show 0 ≤ x by omega), decide_eq_true (show x < a by omega)]))
              have HPX := Lib.hid hpx
              clear hbad hinx hpx hN hin hbd hple hbs hNa hP4
              go_wp2
              go_quiet (fail)
              go_wp2
              go_quiet (fail)
              go_wp2
              go_roundw
              case rel => exact ⟨k + 1, hlt, by go_num, ⟨_, HPX.out.symm, rfl⟩, HIN.out, by first | exact (hC.drewN _).drewN _ | exact hCd.drewN _ | exact hC.drewN _ | exact hCd.drew⟩
              case measure => exact fit_meas k s.length hlt
        · obtain rfl : k = s.length := by omega
          rw [List.take_length, List.take_of_length_le (by have := HL.out; omega)] at hN hin
          have HR := Lib.hid (show plB s xs = true by unfold plB; rw [HSH.out, hin]; rfl)
          have HN := Lib.hid hN
          clear hN hin
          go_wp2
          go_ret2
          exact ⟨by rw [plN_ok HR.out, HR.out, ← HN.out]; rfl, hC⟩
    · have b1 : ((xs.length : Int) != (s.length : Int)) = true := by rw [bne_iff_ne]; omega
      have HR := Lib.hid (show plB s xs = false by
        rw [Bool.eq_false_iff]
        intro hp
        unfold plB at hp
        rw [Bool.and_eq_true] at hp
        exact hl (inL_iff.1 hp.2).1)
      generalize prodL s = P at *
      clear hS hX h1 h2 h3 hs hl
      go_enter Try.func76, Try.ntmps76
      go_wp2_with fail
      refine hcnt.mono ?_
      clear hcnt
      rintro e9 w1 ⟨rfl, rfl⟩
      go_wp2
      go_ret2
      exact ⟨by rw [plN_not HR.out, HR.out]; rfl, Chg.refl _ _⟩
  · rw [h2, h3] at hcnt
    have HR := Lib.hid (show plB s xs = false by unfold plB; rw [h1]; rfl)
    clear hS hX h1 h2 h3
    go_enter Try.func76, Try.ntmps76
    go_wp2_with fail
    refine hcnt.mono ?_
    clear hcnt
    rintro e9 w1 ⟨rfl, rfl⟩
    go_wp2
    go_ret2
    exact ⟨by rw [plN_not HR.out, HR.out]; rfl, Chg.refl _ _⟩
end Go.Proofs.Ytjmlekdgipinfaa
