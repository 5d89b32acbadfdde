/- fold: the inner product. -/
import Derived.Test.YtjmlekdgipinfaaMt48
namespace Go.Proofs.Ytjmlekdgipinfaa
open Go.RowKit Go.Shelf

theorem enters_inner1 : ∀ args w, (callFunc 53 args).run Try.prog w = .ok (.enter 53 args) w := enters_of Try.func53 (by kernel_rfl) rfl
theorem mixP_In {g a b x y : Int} (hx : In x) (hy : In y) : In (mixP g a b x y).1 := by
  unfold mixP
  split
  · exact two_In hx hy
  · unfold flagI In; split <;> decide
set_option maxRecDepth 100000 in
set_option maxHeartbeats 4000000 in
theorem inner_any (f g : Int) (u v : Value) (A B : Ar) (w : World) (hA : Ara w u A) (hBB : Ara w v B) (hl1 : A.e.length ≤ 1000000) (hl2 : B.e.length ≤ 1000000) (hI1 : ∀ x ∈ A.e, In x) (hI2 : ∀ x ∈ B.e, In x) : Calls Try.prog 17 #[.int .i64 f, .int .i64 g, u, v] w (GaveAE w (innA f g A B) (innE f g A B)) := by
  have his := fun w' (h : Chg (fun _ => False) w w') => innerS_any f g u v A B w' (hA.fr h) (hBB.fr h) hl1 hl2
  obtain ⟨vs, ve, rfl, hs, he⟩ := hA
  obtain ⟨us, ue, rfl, ht, hf⟩ := hBB
  have HEL := Lib.hid (And.intro he hf)
  have HSL := Lib.hid (And.intro hs ht)
  obtain ⟨sa, cs, rfl, _⟩ := hs.form
  obtain ⟨ea, ce, rfl, _⟩ := he.form
  obtain ⟨ta, ct, rfl, _⟩ := ht.form
  obtain ⟨fa, cf, rfl, _⟩ := hf.form
  have hK1 := (Chg.refl (fun _ => False) w).alloc (.cells #[.int .i64 f] 3)
  have hK2 := (Chg.refl (fun _ => False) (w.alloc (.cells #[.int .i64 f] 3))).alloc (.cells #[.int .i64 A.k, .slice sa A.s.length cs, .slice ea A.e.length ce] 25)
  have hK3 := (Chg.refl (fun _ => False) ((w.alloc (.cells #[.int .i64 f] 3)).alloc (.cells #[.int .i64 A.k, .slice sa A.s.length cs, .slice ea A.e.length ce] 25))).alloc (.cells #[.int .i64 B.k, .slice ta B.s.length ct, .slice fa B.e.length cf] 25)
  have hK4 := (Chg.refl (fun _ => False) (((w.alloc (.cells #[.int .i64 f] 3)).alloc (.cells #[.int .i64 A.k, .slice sa A.s.length cs, .slice ea A.e.length ce] 25)).alloc (.cells #[.int .i64 B.k, .slice ta B.s.length ct, .slice fa B.e.length cf] 25))).alloc (.cells #[.int .i64 0, .slice none 0 0, .slice none 0 0] 25)
  have x0 := hK4.cell (hK3.cell (hK2.cell (new_cell w #[.int .i64 f] 3 (i := 0) (v := .int .i64 f) rfl) id) id) id
  obtain ⟨y0, y1, y2⟩ := cell_two (w.alloc (.cells #[.int .i64 f] 3)) (.int .i64 A.k) (.slice sa A.s.length cs) (.slice ea A.e.length ce) 25
  obtain ⟨z0, z1, z2⟩ := cell_two ((w.alloc (.cells #[.int .i64 f] 3)).alloc (.cells #[.int .i64 A.k, .slice sa A.s.length cs, .slice ea A.e.length ce] 25)) (.int .i64 B.k) (.slice ta B.s.length ct) (.slice fa B.e.length cf) 25
  have hB := Bx.new (((w.alloc (.cells #[.int .i64 f] 3)).alloc (.cells #[.int .i64 A.k, .slice sa A.s.length cs, .slice ea A.e.length ce] 25)).alloc (.cells #[.int .i64 B.k, .slice ta B.s.length ct, .slice fa B.e.length cf] 25)) (.int .i64 0) (.slice none 0 0) (.slice none 0 0) 25
  replace y0 := hK4.cell (hK3.cell y0 id) id
  replace y1 := hK4.cell (hK3.cell y1 id) id
  replace y2 := hK4.cell (hK3.cell y2 id) id
  replace z0 := hK4.cell z0 id
  replace z1 := hK4.cell z1 id
  replace z2 := hK4.cell z2 id
  rw [World.size_alloc] at y0 y1 y2
  rw [World.size_alloc, World.size_alloc] at z0 z1 z2
  rw [World.size_alloc, World.size_alloc, World.size_alloc] at hB
  have hC0 := ((hK1.tr hK2).tr hK3).tr hK4
  have h1 := his _ hC0
  have HC := Lib.hid hC0
  obtain ⟨E, hE⟩ : ∃ E, isE f g A B = E := ⟨_, rfl⟩
  rw [hE] at h1
  have HE := Lib.hid hE
  have HIN := Lib.hid (And.intro hI1 hI2)
  clear hs he ht hf hK1 hK2 hK3 hK4 hC0 his hE hI1 hI2
  by_cases hz : E = 0
  · subst hz
    obtain ⟨hk1, _, hk2, hk3⟩ := is_zero HE.out
    have hch := ck_zero hk1
    have hshp := shB_iff.1 hk3
    obtain ⟨sh, hsh⟩ : ∃ sh, shpI A B = sh := ⟨_, rfl⟩
    have HNN := Lib.hid (show shB sh = true ∧ prodL sh = (innN A B : Int) ∧ innN A B ≤ 4096 from by
      rw [← hsh]
      have h9 := prodL_nonneg _ (fun l hl => (hshp.2.1 l hl).1)
      have h8 := hshp.2.2
      unfold innN
      exact ⟨hk3, by omega, by omega⟩)
    have HSB := Lib.hid (shB_iff.1 (chkB_iff.1 hch.2).1)
    have hL0 : 0 ≤ lngI A B ∧ lngI A B ≤ 4096 := by
      have qa := (shB_iff.1 (chkB_iff.1 hch.1).1).2.1
      have qb := (shB_iff.1 (chkB_iff.1 hch.2).1).2.1
      have hh : ∀ l : List Int, (∀ x ∈ l, 0 ≤ x ∧ x ≤ 4096) → 0 ≤ l.headD 1 ∧ l.headD 1 ≤ 4096 := fun l hl => by
        cases l with
        | nil => exact ⟨by decide, by decide⟩
        | cons x r => exact hl x (by simp)
      unfold lngI
      rcases List.eq_nil_or_concat A.s with e | ⟨t, x, e⟩
      · rw [e]; exact hh _ qb
      · have h9 := qa x (by rw [e]; simp)
        rw [e]
        simpa [List.getLastD_eq_getLast?] using h9
    obtain ⟨L, hL⟩ := Int.eq_ofNat_of_zero_le hL0.1
    have HL := Lib.hid (show lngI A B = (L : Int) ∧ L ≤ 4096 from ⟨hL, by omega⟩)
    have HCO := Lib.hid (col_of hch.2).1
    rw [hsh, hL] at h1
    have HRE := Lib.hid (show innE f g A B = mdE (innN A B) (inP f (mixP g A.k B.k) A B (colN B) L) ∧ innA f g A B = if mdE (innN A B) (inP f (mixP g A.k B.k) A B (colN B) L) = 0 then ⟨1, sh, tabV (innN A B) (inP f (mixP g A.k B.k) A B (colN B) L)⟩ else noA from by
      have h9 : innE f g A B = mdE (innN A B) (inP f (mixP g A.k B.k) A B (colN B) L) := by unfold innE; rw [if_pos HE.out, hL, Int.toNat_natCast]
      refine ⟨h9, ?_⟩
      unfold innA
      rw [h9, hsh, hL, Int.toNat_natCast])
    have HIX := Lib.hid (show ∀ n, n < innN A B → 0 < colN B ∧ colN B ≤ 1000000 ∧ ∀ k, k < L → iaN A (colN B) L n k < A.e.length ∧ ibN B (colN B) n k < B.e.length from fun n hn => by
      have h9 := inner_ix HE.out hn
      rw [hL, Int.toNat_natCast] at h9
      refine ⟨h9.1, ?_, h9.2⟩
      have h8 := HNN.out.2.2
      have h7 : innN A B = (prodL A.s.dropLast).toNat * colN B := by
        unfold innN shpI
        rw [prodL_append, HCO.out, Int.toNat_mul (prodL_nonneg _ (fun l hl => ((shB_iff.1 (chkB_iff.1 hch.1).1).2.1 l ((List.dropLast_sublist _).subset hl)).1)) (Int.natCast_nonneg (colN B)), Int.toNat_natCast]
      rw [h7] at hn h8
      have h6 : 0 < (prodL A.s.dropLast).toNat := by
        rcases Nat.eq_zero_or_pos (prodL A.s.dropLast).toNat with e | e
        · rw [e, Nat.zero_mul] at hn; omega
        · exact e
      have h5 : 1 * colN B ≤ (prodL A.s.dropLast).toNat * colN B := Nat.mul_le_mul_right _ h6
      omega)
    have hmx := mixed_any g A.k B.k
    rw [hk2] at hmx
    clear hk1 hk2 hk3 hch hshp hsh hL0 hL
    go_enter Try.func17, Try.ntmps17
    go_wp2_with fail
    refine h1.mono ?_
    clear h1
    rintro e9 w1 ⟨vh, L', rfl, hC1, ho, _⟩
    obtain ⟨rfl, ho2⟩ := ho (by first | rfl | trivial)
    obtain ⟨ah, ch, rfl⟩ := own_name ho2
    have HS0 := Lib.hid (show w.heap.size + 1 + 1 + 1 + 1 ≤ _ from hB.lt)
    replace HC := Lib.hid (HC.out.tr hC1)
    replace x0 := hC1.cell x0 id
    replace y0 := hC1.cell y0 id
    replace y1 := hC1.cell y1 id
    replace y2 := hC1.cell y2 id
    replace z0 := hC1.cell z0 id
    replace z1 := hC1.cell z1 id
    replace z2 := hC1.cell z2 id
    replace hB := hB.fr hC1
    have HO := Lib.hid (ho2.mono HS0.out)
    have hK5 := (Chg.refl (fun _ => False) w1).alloc (.cells #[.int .i64 L] 3)
    have c11 := new_cell w1 #[.int .i64 L] 3 (i := 0) (v := .int .i64 L) rfl
    replace HC := Lib.hid (HC.out.tr hK5)
    replace x0 := hK5.cell x0 id
    replace y0 := hK5.cell y0 id
    replace y1 := hK5.cell y1 id
    replace y2 := hK5.cell y2 id
    replace z0 := hK5.cell z0 id
    replace z1 := hK5.cell z1 id
    replace z2 := hK5.cell z2 id
    replace hB := hB.fr hK5
    replace HO := Lib.hid (HO.out.fr hK5)
    clear ho ho2 hC1 hK5
    go_wp2_with fail
    refine (hmx _).mono ?_
    clear hmx
    rintro e9 w2 ⟨vf, rfl, hf0, _, hC2⟩
    obtain ⟨gf, lb, rfl, egf, hcf⟩ := hf0 (by first | rfl | trivial)
    have HFN := Lib.hid (show Fn2 w2 (.func (.func gf) #[] lb) (mixP g A.k B.k) from ⟨gf, lb, rfl, egf, hcf⟩)
    replace HC := Lib.hid (HC.out.tr hC2)
    replace x0 := hC2.cell x0 id
    replace y0 := hC2.cell y0 id
    replace y1 := hC2.cell y1 id
    replace y2 := hC2.cell y2 id
    replace z0 := hC2.cell z0 id
    replace z1 := hC2.cell z1 id
    replace z2 := hC2.cell z2 id
    replace hB := hB.fr hC2
    replace c11 := hC2.cell c11 id
    replace HO := Lib.hid (HO.out.fr hC2)
    clear hf0 egf hcf hC2
    have hK6 := (Chg.refl (fun _ => False) w2).alloc (.cells #[.func (.func gf) #[] lb] 33)
    have hK7 := (Chg.refl (fun _ => False) (w2.alloc (.cells #[.func (.func gf) #[] lb] 33))).alloc (.cells #[.int .i64 1] 3)
    have c13 := hK7.cell (new_cell w2 #[.func (.func gf) #[] lb] 33 (i := 0) (v := .func (.func gf) #[] lb) rfl) id
    have c15 := new_cell (w2.alloc (.cells #[.func (.func gf) #[] lb] 33)) #[.int .i64 1] 3 (i := 0) (v := .int .i64 1) rfl
    have d15 := new_frozen (w2.alloc (.cells #[.func (.func gf) #[] lb] 33)) #[.int .i64 1] 3 0
    rw [World.size_alloc] at c15 d15
    have HK := Lib.hid (hK6.tr hK7)
    clear hK6 hK7
    go_wp2
    generalize ((w2.alloc (.cells #[.func (.func gf) #[] lb] 33)).alloc (.cells #[.int .i64 1] 3)) = w5 at *
    go_loopw [16] (fun vi wr => ∃ i : Nat, 1 ≤ i ∧ (i ≤ B.s.length ∨ i = 1) ∧ vi = .int .i64 i ∧ Chg (fun _ => False) w2 wr ∧ wr.cell? ⟨w2.heap.size, 0, none⟩ = some (.func (.func gf) #[] lb) ∧ wr.cell? ⟨w2.heap.size + 1, 0, none⟩ = some (.int .i64 (prodL ((B.s.take i).drop 1))) ∧ wr.frozen? ⟨w2.heap.size + 1, 0, none⟩ = false) (fun vi _ => B.s.length - (intOf vi).toNat)
    case atStart => exact ⟨1, Nat.le_refl _, .inr rfl, rfl, HK.out, c13, by rw [c15, show (B.s.take 1).drop 1 = [] by cases B.s <;> rfl]; rfl, d15⟩
    case round =>
      obtain ⟨i, hi1, hi2, rfl, hCr, k13, k15, e15⟩ := hrel
      clear c13 c15 d15
      have HCr := Lib.hid hCr
      have Z1 := Lib.hid z1
      replace z1 := hCr.cell z1 id
      by_cases hlt : i < B.s.length
      · obtain ⟨xb, ob, cb', e1, hx⟩ := (HSL.out.2.fr (HC.out.tr hCr)).at hlt
        injection e1 with e1 e2 e3
        subst e1
        clear e2 e3
        have hnx : prodL ((B.s.take (i + 1)).drop 1) = prodL ((B.s.take i).drop 1) * B.s[i] := by
          rw [List.take_succ_eq_append_getElem hlt, List.drop_append_of_le_length (by rw [List.length_take]; omega), prodL_append]
          simp [prodL]
        have hel := HSB.out.2.1
        have hmem : ∀ x ∈ (B.s.take (i + 1)).drop 1, 0 ≤ x ∧ x ≤ 4096 := fun x hx => hel x (List.mem_of_mem_take (List.mem_of_mem_drop hx))
        have hP0 := prodL_nonneg _ (fun x hx => (hmem x hx).1)
        have hP1 : prodL ((B.s.take (i + 1)).drop 1) ≤ 68719476736 := by
          have h1 := prodL_le _ hmem
          have h3 : ((B.s.take (i + 1)).drop 1).length ≤ 3 := by have := HSB.out.1; rw [List.length_drop, List.length_take]; omega
          have := Nat.pow_le_pow_right (n := 4096) (by decide) h3
          have e2 : ∀ m : Nat, (4096 : Int) ^ m = ((4096 ^ m : Nat) : Int) := fun m => by rw [Int.natCast_pow]; rfl
          rw [e2] at h1
          omega
        obtain ⟨P', hP'⟩ : ∃ x, prodL ((B.s.take (i + 1)).drop 1) = x := ⟨_, rfl⟩
        obtain ⟨P, hP⟩ : ∃ x, prodL ((B.s.take i).drop 1) = x := ⟨_, rfl⟩
        obtain ⟨y, hy⟩ : ∃ x, B.s[i] = x := ⟨_, rfl⟩
        rw [hP', hP, hy] at hnx
        rw [hP'] at hP0 hP1
        rw [hP] at k15
        rw [hy] at hx
        have hw : IntKind.i64.wrap (P * y) = P' := by rw [← hnx]; exact IntWalk.i64_in _ (by omega)
        have hbl : i ≤ 4096 := by have := HSB.out.1; omega
        have hkw : IntKind.i64.wrap ((i : Int) + 1) = (i : Int) + 1 := IntWalk.i64_in _ (by omega)
        have hd : decide ((i : Int) < (B.s.length : Int)) = true := decide_eq_true (by omega)
        have i0 : (0 : Int) ≤ (i : Int) := by omega
        have i1 : (i : Int) < (B.s.length : Int) := by omega
        have HK2 := Lib.hid (show i < B.s.length ∧ prodL ((B.s.take (i + 1)).drop 1) = P' from ⟨hlt, hP'⟩)
        have g13 : (wr.setCell ⟨w2.heap.size + 1, 0, none⟩ (.int .i64 P')).cell? ⟨w2.heap.size, 0, none⟩ = some (.func (.func gf) #[] lb) := by rw [World.cell?_setCell_other _ _ _ _ (by simp)]; exact k13
        have g15 : (wr.setCell ⟨w2.heap.size + 1, 0, none⟩ (.int .i64 P')).cell? ⟨w2.heap.size + 1, 0, none⟩ = some (.int .i64 P') := World.cell?_setCell_same' _ _ _ (by rw [k15]; rfl)
        have f15 : (wr.setCell ⟨w2.heap.size + 1, 0, none⟩ (.int .i64 P')).frozen? ⟨w2.heap.size + 1, 0, none⟩ = false := by rw [World.frozen?_setCell]; exact e15
        have HG := Lib.hid (And.intro g13 (And.intro g15 (And.intro f15 (hCr.setCell (p := ⟨w2.heap.size + 1, 0, none⟩) (.inr (Nat.le_succ _)) (.int .i64 P')))))
        clear hnx hel hmem hP0 hP1 hP hP' hy hbl hi1 hi2 hlt hCr g13 g15 f15 k13
        go_wp2
        go_region
        all_goals
          go_wp2
          go_roundw
          case rel =>
            exact ⟨i + 1, Nat.le_add_left _ _, .inl HK2.out.1, by go_num, HG.out.2.2.2.drew, HG.out.1, by rw [HK2.out.2]; exact HG.out.2.1, HG.out.2.2.1⟩
          case measure => exact fit_meas i _ HK2.out.1
      · have hd : decide ((i : Int) < (B.s.length : Int)) = false := decide_eq_false (by omega)
        have hfull : prodL ((B.s.take i).drop 1) = (colN B : Int) := by rw [List.take_of_length_le (by omega)]; exact HCO.out
        rw [hfull] at k15
        have hd2 : decide (i < B.s.length) = false := decide_eq_false hlt
        have hd3 : ¬ (i : Int) < (B.s.length : Int) := by omega
        clear hfull hi1 hi2
        have HO5 := Lib.hid (HO.out.fr hCr)
        have HF5 := Lib.hid (HFN.out.fr hCr)
        have HB5 := Lib.hid (hB.fr hCr)
        have HC5 := Lib.hid (HC.out.tr hCr)
        have xx0 := hCr.cell x0 id
        have yy1 := hCr.cell y1 id
        have yy2 := hCr.cell y2 id
        have zz2 := hCr.cell z2 id
        have cc11 := hCr.cell c11 id
        have hmd := made_any _ sh (innN A B) 53 #[] #[.pointer (some ⟨w1.heap.size, 0, none⟩), .pointer (some ⟨w2.heap.size + 1, 0, none⟩), .pointer (some ⟨w.heap.size + 1, 0, none⟩), .pointer (some ⟨w.heap.size + 1 + 1, 0, none⟩), .pointer (some ⟨w2.heap.size, 0, none⟩), .pointer (some ⟨w.heap.size, 0, none⟩)] (inP f (mixP g A.k B.k) A B (colN B) L) wr HO5.out.ls HNN.out.1 HNN.out.2.1 ⟨enters_inner1, fun n hn w' h => inner1_any f (mixP g A.k B.k) _ _ _ A B sa ta cs ct (colN B) L n _ _ _ _ _ _ w' (HF5.out.fr h) (HEL.out.1.fr (HC5.out.tr h)) (HEL.out.2.fr (HC5.out.tr h)) (h.cell cc11 id) (h.cell k15 id) (h.cell yy1 id) (h.cell yy2 id) (h.cell z1 id) (h.cell zz2 id) (h.cell k13 id) (h.cell xx0 id) (HIX.out n hn).1 ⟨(HIX.out n hn).2.1, by have := HL.out.2; omega, by have := HNN.out.2.2; omega⟩ HIN.out.1 HIN.out.2 (fun x y hx hy => mixP_In hx hy) (HIX.out n hn).2.2⟩
        generalize inP f (mixP g A.k B.k) A B (colN B) L = el at *
        generalize innN A B = N at *
        clear hCr xx0 yy1 yy2 zz2 cc11 k13 x0 y0 y1 y2 z0 z2 c11 hB
        go_wp2_with fail
        refine hmd.mono ?_
        clear hmd
        rintro e9 w6 ⟨km, vm, em, rfl, hC6, hm0, hm1⟩
        obtain ⟨p1, n1, c1, p2, n2, c2, rfl, rfl⟩ := md_form hm0 hm1
        have HM := Lib.hid (And.intro hm0 hm1)
        have HLT := Lib.hid HB5.out.lt
        obtain ⟨q0, q1, q2, f0, f1, f2⟩ := HB5.out.fr hC6
        obtain ⟨⟨g0, g1⟩, g2⟩ := set3_cells (.int .i64 km) (.slice p1 n1 c1) (.slice p2 n2 c2) q0 q1 q2
        have HCW := Lib.hid (HC5.out.tr hC6)
        have HO6 := Lib.hid (HO5.out.fr hC6)
        clear hm0 hm1 hC6
        go_wp2
        simp [bodyPost, results, Try.results17, go_sem, g0, g1, g2]
        rw [HRE.out.1, HRE.out.2]
        by_cases hq : mdE N el = 0
        · obtain ⟨rfl, hv, ho⟩ := HM.out.1 hq
          rw [hq, if_pos rfl, hv]
          rw [hv] at *
          exact leaveAE HO6.out ho (Nat.le_trans (Nat.le_succ _) (Nat.le_trans (Nat.le_succ _) (Nat.le_succ _))) (Nat.lt_succ_self _) HLT.out HCW.out
        · obtain ⟨rfl, hv, hv2⟩ := HM.out.2 hq
          rw [if_neg hq, hv, hv2]
          exact leaveNo (Nat.le_trans (Nat.le_succ _) (Nat.le_trans (Nat.le_succ _) (Nat.le_succ _))) HCW.out
  · have ez : (E != 0) = true := bne_iff_ne.2 hz
    have HR := Lib.hid (show innE f g A B = E ∧ innA f g A B = noA from ⟨by unfold innE; rw [HE.out, if_neg hz], by unfold innA innE; rw [HE.out, if_neg hz, if_neg hz]⟩)
    have HZ := Lib.hid hz
    clear hz HE
    go_enter Try.func17, Try.ntmps17
    go_wp2_with fail
    refine h1.mono ?_
    clear h1
    rintro e9 w1 ⟨vh, L', rfl, hC1, _, ho⟩
    obtain ⟨rfl, rfl⟩ := ho HZ.out
    replace HC := Lib.hid (HC.out.tr hC1)
    replace x0 := hC1.cell x0 id
    replace y0 := hC1.cell y0 id
    replace y1 := hC1.cell y1 id
    replace y2 := hC1.cell y2 id
    replace z0 := hC1.cell z0 id
    replace z1 := hC1.cell z1 id
    replace z2 := hC1.cell z2 id
    replace hB := hB.fr hC1
    have hK5 := (Chg.refl (fun _ => False) w1).alloc (.cells #[.int .i64 0] 3)
    replace HC := Lib.hid (HC.out.tr hK5)
    replace x0 := hK5.cell x0 id
    replace y0 := hK5.cell y0 id
    replace y1 := hK5.cell y1 id
    replace y2 := hK5.cell y2 id
    replace z0 := hK5.cell z0 id
    replace z1 := hK5.cell z1 id
    replace z2 := hK5.cell z2 id
    replace hB := hB.fr hK5
    clear ho hC1 hK5
    obtain ⟨p0, p1, p2, f0, f1, f2⟩ := hB
    obtain ⟨⟨g0, g1⟩, g2⟩ := set3_cells (.int .i64 0) (.slice none 0 0) (.slice none 0 0) p0 p1 p2
    go_wp2
    simp [bodyPost, results, Try.results17, go_sem, g0, g1, g2]
    rw [HR.out.1, HR.out.2]
    exact leaveNo (Nat.le_trans (Nat.le_succ _) (Nat.le_trans (Nat.le_succ _) (Nat.le_succ _))) HC.out
end Go.Proofs.Ytjmlekdgipinfaa
