/- fold: scan. -/
import Derived.Test.YtjmlekdgipinfaaMt37
namespace Go.Proofs.Ytjmlekdgipinfaa
open Go.RowKit Go.Shelf

def lonN (A : Ar) : Nat := (longN A.s).toNat
def scnE (f : Int) (A : Ar) : Int := if fineE f A = 0 then mdE A.e.length (partP f A.e (lonN A)) else fineE f A
def scnA (f : Int) (A : Ar) : Ar := if scnE f A = 0 then ⟨1, A.s, tabV A.e.length (partP f A.e (lonN A))⟩ else noA
theorem fine_chk {f : Int} {A : Ar} (h : fineE f A = 0) : binB f = true ∧ chkB A = true ∧ A.k ≠ 2 := by
  unfold fineE at h
  cases h1 : binB f with
  | false => rw [h1] at h; simp at h
  | true =>
    cases h2 : chkB A with
    | false => rw [h1, h2] at h; simp at h
    | true =>
      rw [h1, h2] at h
      exact ⟨rfl, rfl, fun e => by rw [if_pos rfl, if_pos rfl, if_pos e] at h; cases h⟩
/-- Rows of a shape. -/
theorem rows_of {s : List Int} (hsh : shB s = true) : 0 ≤ manyN s ∧ 0 ≤ longN s ∧ longN s ≤ 4096 ∧ manyN s * longN s = prodL s := by
  have h := shB_iff.1 hsh
  unfold manyN longN
  rw [hsh, if_pos rfl, if_pos rfl]
  rcases List.eq_nil_or_concat s with rfl | ⟨t, x, rfl⟩
  · exact ⟨by decide, by decide, by decide, by decide⟩
  · rw [List.concat_eq_append] at h ⊢
    have hx := h.2.1 x (by simp)
    have ht : ∀ l ∈ t, 0 ≤ l := fun l hl => (h.2.1 l (by simp [hl])).1
    rw [List.dropLast_concat, show (t ++ [x]).getLastD 1 = x by simp [List.getLastD_eq_getLast?]]
    refine ⟨prodL_nonneg t ht, hx.1, hx.2, ?_⟩
    rw [prodL_append]
    simp [prodL]
theorem row_fits {s : List Int} {n : Nat} (hsh : shB s = true) (hp : prodL s = (n : Int)) {i : Nat} (hi : i < n) : 0 < (longN s).toNat ∧ (i / (longN s).toNat + 1) * (longN s).toNat ≤ n := by
  obtain ⟨h1, h2, h3, h4⟩ := rows_of hsh
  obtain ⟨m, hm⟩ := Int.eq_ofNat_of_zero_le h1
  obtain ⟨L, hL⟩ := Int.eq_ofNat_of_zero_le h2
  rw [hp, hm, hL] at h4
  have h5 : m * L = n := by exact_mod_cast h4
  rw [hL]
  simp only [Int.toNat_natCast]
  have hL0 : 0 < L := by
    rcases Nat.eq_zero_or_pos L with e | e
    · rw [e, Nat.mul_zero] at h5; omega
    · exact e
  refine ⟨hL0, ?_⟩
  rw [← h5]
  refine Nat.mul_le_mul_right _ ?_
  rw [Nat.succ_le_iff, Nat.div_lt_iff_lt_mul hL0, h5]
  exact hi
theorem chg_drewG {g : Nat} {w w' : World} (h : Chg (fun q => q = g) w w') : Chg (fun q => q = g) w w'.drew := h.drew
theorem chg_setG {g i : Nat} {u : Value} {w w' : World} (h : Chg (fun q => q = g) w w') : Chg (fun q => q = g) w (w'.setCell ⟨g, i, none⟩ u) := h.setCell (.inl rfl) _
theorem chg_trG {g : Nat} {a b c : World} (h : Chg (fun q => q = g) a b) (k : Chg (fun _ => False) b c) : Chg (fun q => q = g) a c := h.trans k (fun _ _ h => h) (fun _ _ h => h.elim)
theorem md_form {w' : World} {E k : Int} {sa : Option Addr} {sn sc base : Nat} {vs ve : Value} {xs : List Int} (h0 : E = 0 → k = 1 ∧ vs = .slice sa sn sc ∧ Own w' base 2 ve xs) (h1 : E ≠ 0 → k = 0 ∧ vs = .slice none 0 0 ∧ ve = .slice none 0 0) :
    ∃ p1 n1 c1 p2 n2 c2, vs = .slice p1 n1 c1 ∧ ve = .slice p2 n2 c2 := by
  by_cases h : E = 0
  · obtain ⟨_, rfl, ho⟩ := h0 h
    obtain ⟨ao, c, rfl⟩ := own_name ho
    exact ⟨_, _, _, _, _, _, rfl, rfl⟩
  · obtain ⟨_, rfl, rfl⟩ := h1 h
    exact ⟨_, _, _, _, _, _, rfl, rfl⟩
theorem enters_part : ∀ args w, (callFunc 62 args).run Try.prog w = .ok (.enter 62 args) w := enters_of Try.func62 (by kernel_rfl) rfl
set_option maxRecDepth 100000 in
set_option maxHeartbeats 2000000 in
theorem scan_any (f : Int) (u : Value) (A : Ar) (w : World) (hA : Ara w u A) (hl : A.e.length ≤ 1000000) (hI : ∀ x ∈ A.e, In x) : Calls Try.prog 25 #[.int .i64 f, u] w (GaveAE w (scnA f A) (scnE f A)) := by
  obtain ⟨vs, ve, rfl, hs, he⟩ := hA
  obtain ⟨sa, cs, rfl, _⟩ := hs.form
  obtain ⟨ae, ce, rfl, _⟩ := he.form
  have hC0 := ((Chg.refl (fun _ => False) w).alloc (.cells #[.int .i64 A.k, .slice sa A.s.length cs, .slice ae A.e.length ce] 25)).alloc (.cells #[.int .i64 0, .slice none 0 0, .slice none 0 0] 25)
  have hK1 := (Chg.refl (fun _ => False) (w.alloc (.cells #[.int .i64 A.k, .slice sa A.s.length cs, .slice ae A.e.length ce] 25))).alloc (.cells #[.int .i64 0, .slice none 0 0, .slice none 0 0] 25)
  obtain ⟨y0, y1, y2⟩ := cell_two w (.int .i64 A.k) (.slice sa A.s.length cs) (.slice ae A.e.length ce) 25
  have hB0 := Bx.new (w.alloc (.cells #[.int .i64 A.k, .slice sa A.s.length cs, .slice ae A.e.length ce] 25)) (.int .i64 0) (.slice none 0 0) (.slice none 0 0) 25
  rw [World.size_alloc] at hB0
  replace y0 := hK1.cell y0 id
  replace y1 := hK1.cell y1 id
  replace y2 := hK1.cell y2 id
  have hbg := begun_any f _ _ A _ (hs.fr hC0) (he.fr hC0) hl
  have HL := Lib.hid (And.intro hs he)
  have HC := Lib.hid hC0
  have HI := Lib.hid hI
  clear hs he hC0 hK1 hI
  by_cases hz : fineE f A = 0
  · obtain ⟨hb, hck, hk2⟩ := fine_chk hz
    obtain ⟨hsh, hpr, hkk⟩ := chkB_iff.1 hck
    obtain ⟨_, hl2, hl3, _⟩ := rows_of hsh
    obtain ⟨L, hL⟩ := Int.eq_ofNat_of_zero_le hl2
    have hfit := fun i (hi : i < A.e.length) => row_fits hsh hpr hi
    have HE := Lib.hid (show scnE f A = mdE A.e.length (partP f A.e L) from by unfold scnE lonN; rw [if_pos hz, hL, Int.toNat_natCast])
    have HAA := Lib.hid (show scnA f A = if mdE A.e.length (partP f A.e L) = 0 then ⟨1, A.s, tabV A.e.length (partP f A.e L)⟩ else noA from by unfold scnA scnE lonN; rw [if_pos hz, hL, Int.toNat_natCast])
    rw [hL, Int.toNat_natCast] at hfit
    unfold GaveT at hbg
    rw [hz, hL] at hbg
    obtain ⟨n, hn⟩ : ∃ n, A.e.length = n := ⟨_, rfl⟩
    have HP := Lib.hid (And.intro hsh hpr)
    have HFIT := Lib.hid hfit
    have hsl : A.s.length ≤ 1000000 := by have := (shB_iff.1 hsh).1; omega
    have HSL := Lib.hid hsl
    clear hz hb hck hk2 hkk hpr hl2 hl3 hL hfit hsh hsl hn
    go_enter Try.func25, Try.ntmps25
    go_wp2_with fail
    refine hbg.mono ?_
    clear hbg
    rintro e9 w1 ⟨tv, rfl, h1, _, hC1⟩
    obtain rfl := h1 (by first | rfl | trivial)
    unfold tbl
    clear h1
    have hC2 := hC1.alloc (.cells #[.int .i64 f, .int .i64 A.k, .slice sa A.s.length cs, .slice ae A.e.length ce, .int .i64 (manyN A.s), .int .i64 L] 86)
    have hB2 := hB0.fr hC2
    replace y0 := hC2.cell y0 id
    replace y1 := hC2.cell y1 id
    replace y2 := hC2.cell y2 id
    have HC2 := Lib.hid (HC.out.tr hC2)
    have t0 := new_cell w1 #[.int .i64 f, .int .i64 A.k, .slice sa A.s.length cs, .slice ae A.e.length ce, .int .i64 (manyN A.s), .int .i64 L] 86 (i := 0) (v := .int .i64 f) rfl
    have t1 := new_cell w1 #[.int .i64 f, .int .i64 A.k, .slice sa A.s.length cs, .slice ae A.e.length ce, .int .i64 (manyN A.s), .int .i64 L] 86 (i := 1) (v := .int .i64 A.k) rfl
    have t2 := new_cell w1 #[.int .i64 f, .int .i64 A.k, .slice sa A.s.length cs, .slice ae A.e.length ce, .int .i64 (manyN A.s), .int .i64 L] 86 (i := 2) (v := .slice sa A.s.length cs) rfl
    have t3 := new_cell w1 #[.int .i64 f, .int .i64 A.k, .slice sa A.s.length cs, .slice ae A.e.length ce, .int .i64 (manyN A.s), .int .i64 L] 86 (i := 3) (v := .slice ae A.e.length ce) rfl
    have t4 := new_cell w1 #[.int .i64 f, .int .i64 A.k, .slice sa A.s.length cs, .slice ae A.e.length ce, .int .i64 (manyN A.s), .int .i64 L] 86 (i := 4) (v := .int .i64 (manyN A.s)) rfl
    have t5 := new_cell w1 #[.int .i64 f, .int .i64 A.k, .slice sa A.s.length cs, .slice ae A.e.length ce, .int .i64 (manyN A.s), .int .i64 L] 86 (i := 5) (v := .int .i64 L) rfl
    go_wp2
    obtain ⟨w2, hw2⟩ : ∃ w2, w1.alloc (.cells #[.int .i64 f, .int .i64 A.k, .slice sa A.s.length cs, .slice ae A.e.length ce, .int .i64 (manyN A.s), .int .i64 L] 86) = w2 := ⟨_, rfl⟩
    obtain ⟨b6, hb6⟩ : ∃ b6, w1.heap.size = b6 := ⟨_, rfl⟩
    rw [hw2] at hB2 y0 y1 y2 HC2 t0 t1 t2 t3 t4 t5 ⊢
    rw [hb6] at t0 t1 t2 t3 t4 t5 ⊢
    have HB6 := Lib.hid (show ¬ b6 = w.heap.size + 1 by have := (hB0.fr hC1).lt; omega)
    clear hw2 hb6 hC1 hC2 hB0 HC
    have KP := Lib.hid (show ∀ w', Chg (fun q => q = w.heap.size + 1) w2 w' → (Chg (fun q => q = w.heap.size + 1) w2 w' ∧ w'.cell? ⟨w.heap.size, 1, none⟩ = some (.slice sa A.s.length cs) ∧ w'.cell? ⟨b6, 0, none⟩ = some (.int .i64 f) ∧ w'.cell? ⟨b6, 1, none⟩ = some (.int .i64 A.k) ∧ w'.cell? ⟨b6, 2, none⟩ = some (.slice sa A.s.length cs) ∧ w'.cell? ⟨b6, 3, none⟩ = some (.slice ae A.e.length ce) ∧ w'.cell? ⟨b6, 4, none⟩ = some (.int .i64 (manyN A.s)) ∧ w'.cell? ⟨b6, 5, none⟩ = some (.int .i64 L)) from fun w' h =>
      ⟨h, h.cell y1 (by show ¬ w.heap.size = w.heap.size + 1; omega), h.cell t0 HB6.out, h.cell t1 HB6.out, h.cell t2 HB6.out, h.cell t3 HB6.out, h.cell t4 HB6.out, h.cell t5 HB6.out⟩)
    have H1 := Lib.hid (show ∀ w', Chg (fun _ => False) w2 w' → Calls Try.prog 61 #[.slice sa A.s.length cs] w' (GaveL 3 w' A.s) from fun w' h => cloneI_any _ A.s w' (HL.out.1.fr (HC2.out.tr h)) HSL.out)
    have H2 := Lib.hid (show ∀ (w' : World) (v : Value), Chg (fun _ => False) w2 w' → Ls w' v A.s → Calls Try.prog 45 #[v, .func (.func 62) #[.agg #[.int .i64 f, .int .i64 A.k, .slice sa A.s.length cs, .slice ae A.e.length ce, .int .i64 (manyN A.s), .int .i64 L]] #[]] w' (GaveMd w' v A.e.length (partP f A.e L)) from fun w' v h hv =>
      made_any v A.s A.e.length 62 #[.agg #[.int .i64 f, .int .i64 A.k, .slice sa A.s.length cs, .slice ae A.e.length ce, .int .i64 (manyN A.s), .int .i64 L]] #[] (partP f A.e L) w' hv HP.out.1 HP.out.2
        ⟨enters_part, fun i hi w2' h2 => part_any f A.k (manyN A.s) L i _ _ A.s A.e w2' (HL.out.1.fr (HC2.out.tr (h.tr h2))) (HL.out.2.fr (HC2.out.tr (h.tr h2))) hl (HFIT.out i hi).1 (HFIT.out i hi).2 HI.out⟩)
    obtain ⟨z0, z1, z2, f0, f1, f2⟩ := hB2
    have HB2 := Lib.hid (show Bx w2 (w.heap.size + 1) (.int .i64 0) (.slice none 0 0) (.slice none 0 0) from ⟨z0, z1, z2, f0, f1, f2⟩)
    clear z0 z1 z2 f0 f1 f2
    go_region_held3 (fun w' => Chg (fun q => q = w.heap.size + 1) w2 w' ∧ w'.cell? ⟨w.heap.size, 1, none⟩ = some (.slice sa A.s.length cs) ∧ w'.cell? ⟨b6, 0, none⟩ = some (.int .i64 f) ∧ w'.cell? ⟨b6, 1, none⟩ = some (.int .i64 A.k) ∧ w'.cell? ⟨b6, 2, none⟩ = some (.slice sa A.s.length cs) ∧ w'.cell? ⟨b6, 3, none⟩ = some (.slice ae A.e.length ce) ∧ w'.cell? ⟨b6, 4, none⟩ = some (.int .i64 (manyN A.s)) ∧ w'.cell? ⟨b6, 5, none⟩ = some (.int .i64 L)) ((refine KP.out _ ?_; repeat (first | (with_reducible exact Chg.refl _ _) | (with_reducible refine chg_drewG ?_) | (with_reducible refine chg_setG ?_) | (with_reducible refine chg_trG ?_ hC6) | (with_reducible refine chg_trG ?_ hC5)))) (first
      | (go_at_call 61
         (with_reducible refine (H1.out _ ?_).mono ?_)
         · exact (Chg.refl _ _).drew
         rintro e9 w5 ⟨v5, rfl, ho5, hC5⟩
         obtain ⟨a5, c5, rfl⟩ := own_name ho5)
      | (go_at_call 45
         (with_reducible refine (H2.out _ _ ?_ ?_).mono ?_)
         · exact (Chg.refl _ _).drew.tr hC5
         · exact ho5.ls
         rintro e9 w6 ⟨km, vm, em, rfl, hC6, hm0, hm1⟩
         obtain ⟨p1, n1, c1, p2, n2, c2, rfl, rfl⟩ := md_form hm0 hm1
         have HM := Lib.hid (And.intro hm0 hm1)
         have hB6 := HB2.out.fr (((Chg.refl _ _).drew.tr hC5).tr hC6)
         obtain ⟨z0, z1, z2, f0, f1, f2⟩ := id hB6))
    all_goals
      have HCW := Lib.hid (HC2.out.tr (((Chg.refl (fun _ => False) w2).drew.tr hC5).tr hC6))
      have HLT := Lib.hid (show w.heap.size + 1 < w2.drew.heap.size ∧ w.heap.size + 1 < w5.heap.size from ⟨HB2.out.lt, (HB2.out.fr ((Chg.refl (fun _ => False) w2).drew.tr hC5)).lt⟩)
      have HO := Lib.hid (ho5.fr hC6)
      obtain ⟨⟨g0, g1⟩, g2⟩ := set3_cells (.int .i64 km) (.slice p1 n1 c1) (.slice p2 n2 c2) z0 z1 z2
      clear hm0 hm1 hC5 hC6 ho5
      go_wp2
      simp [bodyPost, results, Try.results25, go_sem, g0, g1, g2]
      rw [HE.out, HAA.out]
      by_cases hq : mdE A.e.length (partP f A.e L) = 0
      · obtain ⟨rfl, hv, ho⟩ := HM.out.1 hq
        rw [hq, if_pos rfl, hv]
        rw [hv] at *
        exact leaveAE HO.out ho (Nat.le_succ _) HLT.out.1 HLT.out.2 HCW.out
      · obtain ⟨rfl, hv, hv2⟩ := HM.out.2 hq
        rw [if_neg hq, hv, hv2]
        exact leaveNo (Nat.le_succ _) HCW.out
  · obtain ⟨n, hn⟩ : ∃ n, fineE f A = n := ⟨_, rfl⟩
    have HR := Lib.hid (show scnE f A = n ∧ scnA f A = noA from ⟨by unfold scnE; rw [if_neg hz, hn], by unfold scnA scnE; rw [if_neg hz, if_neg hz]⟩)
    have hzn : (n != 0) = true := by rw [← hn]; exact bne_iff_ne.2 hz
    unfold GaveT at hbg
    rw [hn] at hbg hz
    have HZ := Lib.hid hz
    clear hz hn
    go_enter Try.func25, Try.ntmps25
    go_wp2_with fail
    refine hbg.mono ?_
    clear hbg
    rintro e9 w1 ⟨tv, rfl, _, h2, hC1⟩
    obtain rfl := h2 HZ.out
    unfold noT tbl
    have hC2 := hC1.alloc (.cells #[.int .i64 0, .int .i64 0, .slice none 0 0, .slice none 0 0, .int .i64 0, .int .i64 0] 86)
    obtain ⟨z0, z1, z2, f0, f1, f2⟩ := hB0.fr hC2
    obtain ⟨⟨g0, g1⟩, g2⟩ := set3_cells (.int .i64 0) (.slice none 0 0) (.slice none 0 0) z0 z1 z2
    have HC1 := Lib.hid (HC.out.tr hC2)
    clear hC1 hB0 h2 hC2
    go_wp2
    simp [bodyPost, results, Try.results25, go_sem, g0, g1, g2]
    rw [HR.out.1, HR.out.2]
    exact leaveNo (Nat.le_succ _) HC1.out
end Go.Proofs.Ytjmlekdgipinfaa
