/- fold: reduce. -/
import Derived.Test.YtjmlekdgipinfaaMt41
import Derived.Test.YtjmlekdgipinfaaMt38
namespace Go.Proofs.Ytjmlekdgipinfaa
open Go.RowKit Go.Shelf

theorem rowL_In {xs : List Int} {i L : Nat} (h : ∀ x ∈ xs, In x) : ∀ x ∈ rowL xs i L, In x := fun x hx => h x (List.mem_of_mem_take (List.mem_of_mem_drop hx))
set_option maxRecDepth 100000 in
set_option maxHeartbeats 2000000 in
theorem whole_any (f k many : Int) (L q : Nat) (vs ve : Value) (s xs : List Int) (w : World) (hs : Ls w vs s) (he : Ls w ve xs) (hl : xs.length ≤ 1000000) (hn : (q + 1) * L ≤ xs.length) (hqb : q ≤ 1000000 ∧ L ≤ 1000000) (hI : ∀ x ∈ xs, In x) : Calls Try.prog 59 #[tbl f k many L vs ve, .int .i64 q] w (GaveP w (rwP f (rowL xs q L)).1 (rwP f (rowL xs q L)).2) := by
  have hrl := rowL_length hn
  have hri := rowL_In (i := q) (L := L) hI
  obtain ⟨sa, cs, rfl, _⟩ := hs.form
  obtain ⟨ea, ce, rfl, _⟩ := he.form
  have H1 := Lib.hid (show ∀ w', Chg (fun _ => False) w w' → Calls Try.prog 99 #[tbl f k many L (.slice sa s.length cs) (.slice ea xs.length ce), .int .i64 q] w' (GaveSl w' L (rowL xs q L)) from fun w' h => trow_any f k many L q _ _ s xs w' (hs.fr h) (he.fr h) hl hn hqb)
  have H2 := Lib.hid (show ∀ (w' : World) (v : Value), Ls w' v (rowL xs q L) → Calls Try.prog 22 #[.int .i64 f, v] w' (GaveP w' (rwP f (rowL xs q L)).1 (rwP f (rowL xs q L)).2) from fun w' v h => row_any f v _ w' h (by rw [hrl]; exact hqb.2) hri)
  generalize rwP f (rowL xs q L) = r at *
  unfold GaveP at H2
  have hC0 := (Chg.refl (fun _ => False) w).alloc (.cells #[.int .i64 f, .int .i64 k, .slice sa s.length cs, .slice ea xs.length ce, .int .i64 many, .int .i64 L] 86)
  have KP := Lib.hid (show ∀ w', Chg (fun _ => False) (w.alloc (.cells #[.int .i64 f, .int .i64 k, .slice sa s.length cs, .slice ea xs.length ce, .int .i64 many, .int .i64 L] 86)) w' → (Chg (fun _ => False) (w.alloc (.cells #[.int .i64 f, .int .i64 k, .slice sa s.length cs, .slice ea xs.length ce, .int .i64 many, .int .i64 L] 86)) w' ∧ w'.cell? ⟨w.heap.size, 0, none⟩ = some (.int .i64 f) ∧ w'.cell? ⟨w.heap.size, 1, none⟩ = some (.int .i64 k) ∧ w'.cell? ⟨w.heap.size, 2, none⟩ = some (.slice sa s.length cs) ∧ w'.cell? ⟨w.heap.size, 3, none⟩ = some (.slice ea xs.length ce) ∧ w'.cell? ⟨w.heap.size, 4, none⟩ = some (.int .i64 many) ∧ w'.cell? ⟨w.heap.size, 5, none⟩ = some (.int .i64 L)) from fun w' h =>
    ⟨h, h.cell (new_cell w _ _ rfl) id, h.cell (new_cell w _ _ rfl) id, h.cell (new_cell w _ _ rfl) id, h.cell (new_cell w _ _ rfl) id, h.cell (new_cell w _ _ rfl) id, h.cell (new_cell w _ _ rfl) id⟩)
  have HC0 := Lib.hid hC0
  clear hn hqb hrl hri hs he hl hI hC0
  unfold tbl
  unfold tbl at H1
  go_enter Try.func59, Try.ntmps59
  go_wp2
  go_region_held3 (fun w' => Chg (fun _ => False) (w.alloc (.cells #[.int .i64 f, .int .i64 k, .slice sa s.length cs, .slice ea xs.length ce, .int .i64 many, .int .i64 L] 86)) w' ∧ w'.cell? ⟨w.heap.size, 0, none⟩ = some (.int .i64 f) ∧ w'.cell? ⟨w.heap.size, 1, none⟩ = some (.int .i64 k) ∧ w'.cell? ⟨w.heap.size, 2, none⟩ = some (.slice sa s.length cs) ∧ w'.cell? ⟨w.heap.size, 3, none⟩ = some (.slice ea xs.length ce) ∧ w'.cell? ⟨w.heap.size, 4, none⟩ = some (.int .i64 many) ∧ w'.cell? ⟨w.heap.size, 5, none⟩ = some (.int .i64 L)) ((refine KP.out _ ?_; repeat (first | (with_reducible exact Chg.refl _ _) | (with_reducible refine chg_drewD ?_) | (with_reducible refine Chg.tr ?_ hC6) | (with_reducible refine Chg.tr ?_ hC5)))) (first
    | (go_at_call 99
       (with_reducible refine (H1.out _ ?_).mono ?_)
       · exact HC0.out.drew
       rintro e9 w5 ⟨a5, c5, rfl, hl5, hC5⟩)
    | (go_at_call 22
       (with_reducible refine (H2.out _ _ ?_).mono ?_)
       · exact hl5
       rintro e9 w6 ⟨rfl, hC6⟩))
  all_goals
    rename_i hHd
    have HF := Lib.hid (HC0.out.tr hHd.1)
    clear hHd
    go_wp2
    go_ret2
    exact ⟨rfl, HF.out⟩
theorem enters_whole : ∀ args w, (callFunc 59 args).run Try.prog w = .ok (.enter 59 args) w := enters_of Try.func59 (by kernel_rfl) rfl
theorem fsizeOf_int (w : World) : (sizeOf 3).run Try.prog w = .ok 1 w := by kernel_rfl
theorem icut_upto {w : World} {v : Value} {xs : List Int} (h : Ls w v xs) (k : Nat) (h1 : k ≤ xs.length) : ∃ ao c, Ls w (.slice ao k c) (xs.take k) ∧ (∀ W, (Instr.slice 22 v none (some (.int .i64 (k : Int))) none).run Try.prog W = .ok (.slice ao k c) W) := by
  obtain ⟨ao, c, hS, _, _, _, h5⟩ := Sl.slice (P := Try.prog) 22 3 Try.underlying22 fsizeOf_int h 0 k (Nat.zero_le _) (by rw [List.length_map]; exact h1)
  refine ⟨ao, c, ?_, h5 rfl⟩
  unfold Ls
  rw [List.map_take]
  exact hS
def frN (A : Ar) : Nat := (prodL A.s.dropLast).toNat
def redL (f : Int) (A : Ar) (i : Nat) : Int × Int := rwP f (rowL A.e i (lonN A))
def redE (f : Int) (A : Ar) : Int := if fineE f A = 0 then (if shB A.s.dropLast then mdE (frN A) (redL f A) else 9) else fineE f A
def redA (f : Int) (A : Ar) : Ar := if redE f A = 0 then ⟨1, A.s.dropLast, tabV (frN A) (redL f A)⟩ else noA
set_option maxRecDepth 100000 in
set_option maxHeartbeats 2000000 in
theorem reduce_any (f : Int) (u : Value) (A : Ar) (w : World) (hA : Ara w u A) (hl : A.e.length ≤ 1000000) (hI : ∀ x ∈ A.e, In x) : Calls Try.prog 20 #[.int .i64 f, u] w (GaveAE w (redA f A) (redE f A)) := by
  obtain ⟨vs, ve, rfl, hs, he⟩ := hA
  obtain ⟨sa, cs, rfl, _⟩ := hs.form
  obtain ⟨ae, ce, rfl, _⟩ := he.form
  have hC0 := ((Chg.refl (fun _ => False) w).alloc (.cells #[.int .i64 A.k, .slice sa A.s.length cs, .slice ae A.e.length ce] 25)).alloc (.cells #[.int .i64 0, .slice none 0 0, .slice none 0 0] 25)
  have hK1 := (Chg.refl (fun _ => False) (w.alloc (.cells #[.int .i64 A.k, .slice sa A.s.length cs, .slice ae A.e.length ce] 25))).alloc (.cells #[.int .i64 0, .slice none 0 0, .slice none 0 0] 25)
  obtain ⟨y0, y1, y2⟩ := cell_two w (.int .i64 A.k) (.slice sa A.s.length cs) (.slice ae A.e.length ce) 25
  have hB0 := Bx.new (w.alloc (.cells #[.int .i64 A.k, .slice sa A.s.length cs, .slice ae A.e.length ce] 25)) (.int .i64 0) (.slice none 0 0) (.slice none 0 0) 25
  rw [World.size_alloc] at hB0
  replace y0 := hK1.cell y0 id
  replace y1 := hK1.cell y1 id
  replace y2 := hK1.cell y2 id
  have hbg := begun_any f _ _ A _ (hs.fr hC0) (he.fr hC0) hl
  have HL := Lib.hid (And.intro hs he)
  have HC := Lib.hid hC0
  have HI := Lib.hid hI
  clear hs he hC0 hK1 hI
  by_cases hz : fineE f A = 0
  · obtain ⟨hb, hck, hk2⟩ := fine_chk hz
    obtain ⟨hsh, hpr, hkk⟩ := chkB_iff.1 hck
    obtain ⟨hm1, hl2, hl3, hml⟩ := rows_of hsh
    obtain ⟨L, hL⟩ := Int.eq_ofNat_of_zero_le hl2
    have hmany : manyN A.s = prodL A.s.dropLast := by unfold manyN; rw [if_pos hsh]
    obtain ⟨M, hM⟩ := Int.eq_ofNat_of_zero_le hm1
    have hfr : frN A = M := by unfold frN; rw [← hmany, hM, Int.toNat_natCast]
    have hlo : lonN A = L := by unfold lonN; rw [hL, Int.toNat_natCast]
    have hML : M * L = A.e.length := by
      rw [hpr, hM, hL] at hml
      exact_mod_cast hml
    have hL4 : L ≤ 4096 := by omega
    obtain ⟨el, hel⟩ : ∃ el, redL f A = el := ⟨_, rfl⟩
    have hfM : prodL A.s.dropLast = (M : Int) := by rw [← hmany, hM]
    have HE := Lib.hid (show redE f A = if shB A.s.dropLast then mdE M el else 9 from by unfold redE; rw [if_pos hz, hfr, hel])
    have HAA := Lib.hid (show redA f A = if redE f A = 0 then ⟨1, A.s.dropLast, tabV M el⟩ else noA from by unfold redA; rw [hfr, hel])
    have HEL := Lib.hid (show ∀ i, el i = rwP f (rowL A.e i L) from fun i => by rw [← hel]; unfold redL; rw [hlo])
    unfold GaveT at hbg
    rw [hz, hL, hM] at hbg
    have hsl : A.s.length ≤ 1000000 := by have := (shB_iff.1 hsh).1; omega
    have HP := Lib.hid (And.intro hML (And.intro hL4 (And.intro hfM hsl)))
    obtain ⟨m, hm⟩ : ∃ m, A.s.length - 1 = m := ⟨_, rfl⟩
    have htk : A.s.take m = A.s.dropLast := by rw [List.dropLast_eq_take, hm]
    obtain ⟨fr, hfrr⟩ : ∃ fr, A.s.dropLast = fr := ⟨_, rfl⟩
    rw [hfrr] at htk
    have HFR := Lib.hid (And.intro hfrr htk)
    have HMM := Lib.hid hm
    have HML := Lib.hid (show m ≤ A.s.length by omega)
    clear hz hb hck hk2 hkk hpr hl2 hl3 hL hsh hsl hm1 hml hmany hM hfr hlo hML hL4 hel hfM hm htk hfrr
    go_enter Try.func20, Try.ntmps20
    go_wp2_with fail
    refine hbg.mono ?_
    clear hbg
    rintro e9 w1 ⟨tv, rfl, h1, _, hC1⟩
    obtain rfl := h1 (by first | rfl | trivial)
    unfold tbl
    clear h1
    have hC2 := hC1.alloc (.cells #[.int .i64 f, .int .i64 A.k, .slice sa A.s.length cs, .slice ae A.e.length ce, .int .i64 M, .int .i64 L] 86)
    have hB2 := hB0.fr hC2
    replace y0 := hC2.cell y0 id
    replace y1 := hC2.cell y1 id
    replace y2 := hC2.cell y2 id
    have HC2 := Lib.hid (HC.out.tr hC2)
    have t0 := new_cell w1 #[.int .i64 f, .int .i64 A.k, .slice sa A.s.length cs, .slice ae A.e.length ce, .int .i64 M, .int .i64 L] 86 (i := 0) (v := .int .i64 f) rfl
    have t1 := new_cell w1 #[.int .i64 f, .int .i64 A.k, .slice sa A.s.length cs, .slice ae A.e.length ce, .int .i64 M, .int .i64 L] 86 (i := 1) (v := .int .i64 A.k) rfl
    have t2 := new_cell w1 #[.int .i64 f, .int .i64 A.k, .slice sa A.s.length cs, .slice ae A.e.length ce, .int .i64 M, .int .i64 L] 86 (i := 2) (v := .slice sa A.s.length cs) rfl
    have t3 := new_cell w1 #[.int .i64 f, .int .i64 A.k, .slice sa A.s.length cs, .slice ae A.e.length ce, .int .i64 M, .int .i64 L] 86 (i := 3) (v := .slice ae A.e.length ce) rfl
    have t4 := new_cell w1 #[.int .i64 f, .int .i64 A.k, .slice sa A.s.length cs, .slice ae A.e.length ce, .int .i64 M, .int .i64 L] 86 (i := 4) (v := .int .i64 M) rfl
    have t5 := new_cell w1 #[.int .i64 f, .int .i64 A.k, .slice sa A.s.length cs, .slice ae A.e.length ce, .int .i64 M, .int .i64 L] 86 (i := 5) (v := .int .i64 L) rfl
    obtain ⟨ak, ck, hlk, hrun⟩ := icut_upto (HL.out.1.fr (HC2.out)) m HML.out
    rw [HFR.out.2] at hlk
    have hlm := limited_any _ (.slice none 0 0) fr [] _ hlk (Own.nil _ 0 3).ls (by have := HP.out.2.2.2; rw [← HFR.out.2, List.length_take]; simp; omega)
    rw [List.append_nil] at hlm
    have HSZ := Lib.hid (show w.heap.size + 1 + 1 ≤ (w1.alloc (.cells #[.int .i64 f, .int .i64 A.k, .slice sa A.s.length cs, .slice ae A.e.length ce, .int .i64 M, .int .i64 L] 86)).heap.size from hB2.lt)
    obtain ⟨b6, hb6⟩ : ∃ b6, w1.heap.size = b6 := ⟨_, rfl⟩
    rw [hb6] at t0 t1 t2 t3 t4 t5
    clear hlk hC2 hC1 hB0 HC y0 y2
    by_cases h0 : A.s.length = 0
    · obtain rfl : m = 0 := by have := HMM.out; omega
      replace hrun : ∀ W, (Instr.slice 22 (.slice sa A.s.length cs) none (some (.int .i64 0)) none).run Try.prog W = .ok (.slice ak 0 ck) W := hrun
      have hwr : IntKind.i64.wrap ((A.s.length : Int) - 1) = -1 := by rw [h0]; decide
      clear h0
      go_wp2_with fail
      refine hlm.mono ?_
      clear hlm hrun hwr hb6
      rintro e9 w2 ⟨hCL, v, n, rfl, hv⟩
      replace t0 := hCL.cell t0 id
      replace t1 := hCL.cell t1 id
      replace t2 := hCL.cell t2 id
      replace t3 := hCL.cell t3 id
      replace t4 := hCL.cell t4 id
      replace t5 := hCL.cell t5 id
      replace hB2 := hB2.fr hCL
      replace HC2 := Lib.hid (HC2.out.tr hCL)
      clear hCL
      rcases hv with ⟨hsf, rfl, hO⟩ | ⟨hsf, rfl, rfl⟩
      · obtain ⟨av, cv, rfl⟩ := own_name hO
        have hO' := hO.mono (HSZ.out)
        have HO := Lib.hid hO'
        have hmd := made_any _ fr M 59 #[.agg #[.int .i64 f, .int .i64 A.k, .slice sa A.s.length cs, .slice ae A.e.length ce, .int .i64 M, .int .i64 L]] #[] el w2 hO.ls hsf (by rw [← HFR.out.1]; exact HP.out.2.2.1) ⟨enters_whole, fun i hi w2' h2 => by
          have hi4 : M ≤ 4096 := by
            have h5 := (shB_iff.1 hsf).2.2
            rw [← HFR.out.1, HP.out.2.2.1] at h5
            omega
          rw [HEL.out i]
          exact whole_any f A.k M L i _ _ A.s A.e w2' (HL.out.1.fr (HC2.out.tr h2)) (HL.out.2.fr (HC2.out.tr h2)) hl (by rw [← HP.out.1]; exact Nat.mul_le_mul_right _ hi) ⟨by omega, by have := HP.out.2.1; omega⟩ HI.out⟩
        replace HE := Lib.hid (show redE f A = mdE M el from by rw [HE.out, HFR.out.1, if_pos hsf])
        have HLT := Lib.hid hB2.lt
        clear hsf hO hO'
        go_wp2_with fail
        refine hmd.mono ?_
        clear hmd
        rintro e9 w3 ⟨km, vm, em, rfl, hC6, hm0, hm1⟩
        obtain ⟨p1, n1, c1, p2, n2, c2, rfl, rfl⟩ := md_form hm0 hm1
        have HM := Lib.hid (And.intro hm0 hm1)
        obtain ⟨z0, z1, z2, f0, f1, f2⟩ := hB2.fr hC6
        obtain ⟨⟨g0, g1⟩, g2⟩ := set3_cells (.int .i64 km) (.slice p1 n1 c1) (.slice p2 n2 c2) z0 z1 z2
        have HCW := Lib.hid (HC2.out.tr hC6)
        have HO3 := Lib.hid (HO.out.fr hC6)
        clear hm0 hm1 hC6 hB2 t0 t1 t2 t3 t4 t5
        go_wp2
        simp [bodyPost, results, Try.results20, go_sem, g0, g1, g2]
        rw [HAA.out, HE.out, HFR.out.1]
        by_cases hq : mdE M el = 0
        · obtain ⟨rfl, hv, ho⟩ := HM.out.1 hq
          rw [hq, if_pos rfl, hv]
          rw [hv] at *
          exact leaveAE HO3.out ho (Nat.le_succ _) (Nat.lt_succ_self _) HLT.out HCW.out
        · obtain ⟨rfl, hv, hv2⟩ := HM.out.2 hq
          rw [if_neg hq, hv, hv2]
          exact leaveNo (Nat.le_succ _) HCW.out
      · replace HE := Lib.hid (show redE f A = 9 from by rw [HE.out, HFR.out.1, hsf]; rfl)
        obtain ⟨z0, z1, z2, f0, f1, f2⟩ := hB2
        obtain ⟨⟨g0, g1⟩, g2⟩ := set3_cells (.int .i64 0) (.slice none 0 0) (.slice none 0 0) z0 z1 z2
        clear hsf t0 t1 t2 t3 t4 t5
        go_wp2
        simp [bodyPost, results, Try.results20, go_sem, g0, g1, g2]
        rw [HAA.out, HE.out]
        exact leaveNo (Nat.le_succ _) HC2.out
    · have hwr : IntKind.i64.wrap ((A.s.length : Int) - 1) = (m : Int) := by have := HP.out.2.2.2; have := HMM.out; rw [IntWalk.i64_in _ (by omega)]; omega
      by_cases hm : m = 0
      · subst hm
        replace hwr : IntKind.i64.wrap ((A.s.length : Int) - 1) = 0 := hwr
        replace hrun : ∀ W, (Instr.slice 22 (.slice sa A.s.length cs) none (some (.int .i64 0)) none).run Try.prog W = .ok (.slice ak 0 ck) W := hrun
        clear h0
        go_wp2_with fail
        refine hlm.mono ?_
        clear hlm hrun hwr hb6
        rintro e9 w2 ⟨hCL, v, n, rfl, hv⟩
        replace t0 := hCL.cell t0 id
        replace t1 := hCL.cell t1 id
        replace t2 := hCL.cell t2 id
        replace t3 := hCL.cell t3 id
        replace t4 := hCL.cell t4 id
        replace t5 := hCL.cell t5 id
        replace hB2 := hB2.fr hCL
        replace HC2 := Lib.hid (HC2.out.tr hCL)
        clear hCL
        rcases hv with ⟨hsf, rfl, hO⟩ | ⟨hsf, rfl, rfl⟩
        · obtain ⟨av, cv, rfl⟩ := own_name hO
          have hO' := hO.mono (HSZ.out)
          have HO := Lib.hid hO'
          have hmd := made_any _ fr M 59 #[.agg #[.int .i64 f, .int .i64 A.k, .slice sa A.s.length cs, .slice ae A.e.length ce, .int .i64 M, .int .i64 L]] #[] el w2 hO.ls hsf (by rw [← HFR.out.1]; exact HP.out.2.2.1) ⟨enters_whole, fun i hi w2' h2 => by
            have hi4 : M ≤ 4096 := by
              have h5 := (shB_iff.1 hsf).2.2
              rw [← HFR.out.1, HP.out.2.2.1] at h5
              omega
            rw [HEL.out i]
            exact whole_any f A.k M L i _ _ A.s A.e w2' (HL.out.1.fr (HC2.out.tr h2)) (HL.out.2.fr (HC2.out.tr h2)) hl (by rw [← HP.out.1]; exact Nat.mul_le_mul_right _ hi) ⟨by omega, by have := HP.out.2.1; omega⟩ HI.out⟩
          replace HE := Lib.hid (show redE f A = mdE M el from by rw [HE.out, HFR.out.1, if_pos hsf])
          have HLT := Lib.hid hB2.lt
          clear hsf hO hO'
          go_wp2_with fail
          refine hmd.mono ?_
          clear hmd
          rintro e9 w3 ⟨km, vm, em, rfl, hC6, hm0, hm1⟩
          obtain ⟨p1, n1, c1, p2, n2, c2, rfl, rfl⟩ := md_form hm0 hm1
          have HM := Lib.hid (And.intro hm0 hm1)
          obtain ⟨z0, z1, z2, f0, f1, f2⟩ := hB2.fr hC6
          obtain ⟨⟨g0, g1⟩, g2⟩ := set3_cells (.int .i64 km) (.slice p1 n1 c1) (.slice p2 n2 c2) z0 z1 z2
          have HCW := Lib.hid (HC2.out.tr hC6)
          have HO3 := Lib.hid (HO.out.fr hC6)
          clear hm0 hm1 hC6 hB2 t0 t1 t2 t3 t4 t5
          go_wp2
          simp [bodyPost, results, Try.results20, go_sem, g0, g1, g2]
          rw [HAA.out, HE.out, HFR.out.1]
          by_cases hq : mdE M el = 0
          · obtain ⟨rfl, hv, ho⟩ := HM.out.1 hq
            rw [hq, if_pos rfl, hv]
            rw [hv] at *
            exact leaveAE HO3.out ho (Nat.le_succ _) (Nat.lt_succ_self _) HLT.out HCW.out
          · obtain ⟨rfl, hv, hv2⟩ := HM.out.2 hq
            rw [if_neg hq, hv, hv2]
            exact leaveNo (Nat.le_succ _) HCW.out
        · replace HE := Lib.hid (show redE f A = 9 from by rw [HE.out, HFR.out.1, hsf]; rfl)
          obtain ⟨z0, z1, z2, f0, f1, f2⟩ := hB2
          obtain ⟨⟨g0, g1⟩, g2⟩ := set3_cells (.int .i64 0) (.slice none 0 0) (.slice none 0 0) z0 z1 z2
          clear hsf t0 t1 t2 t3 t4 t5
          go_wp2
          simp [bodyPost, results, Try.results20, go_sem, g0, g1, g2]
          rw [HAA.out, HE.out]
          exact leaveNo (Nat.le_succ _) HC2.out
      · have hm0 : 0 < m := by omega
        have hm1 : (0 : Int) < (m : Int) := by omega
        clear h0 hm
        go_wp2_with fail
        refine hlm.mono ?_
        clear hlm hrun hwr hb6
        rintro e9 w2 ⟨hCL, v, n, rfl, hv⟩
        replace t0 := hCL.cell t0 id
        replace t1 := hCL.cell t1 id
        replace t2 := hCL.cell t2 id
        replace t3 := hCL.cell t3 id
        replace t4 := hCL.cell t4 id
        replace t5 := hCL.cell t5 id
        replace hB2 := hB2.fr hCL
        replace HC2 := Lib.hid (HC2.out.tr hCL)
        clear hCL
        rcases hv with ⟨hsf, rfl, hO⟩ | ⟨hsf, rfl, rfl⟩
        · obtain ⟨av, cv, rfl⟩ := own_name hO
          have hO' := hO.mono (HSZ.out)
          have HO := Lib.hid hO'
          have hmd := made_any _ fr M 59 #[.agg #[.int .i64 f, .int .i64 A.k, .slice sa A.s.length cs, .slice ae A.e.length ce, .int .i64 M, .int .i64 L]] #[] el w2 hO.ls hsf (by rw [← HFR.out.1]; exact HP.out.2.2.1) ⟨enters_whole, fun i hi w2' h2 => by
            have hi4 : M ≤ 4096 := by
              have h5 := (shB_iff.1 hsf).2.2
              rw [← HFR.out.1, HP.out.2.2.1] at h5
              omega
            rw [HEL.out i]
            exact whole_any f A.k M L i _ _ A.s A.e w2' (HL.out.1.fr (HC2.out.tr h2)) (HL.out.2.fr (HC2.out.tr h2)) hl (by rw [← HP.out.1]; exact Nat.mul_le_mul_right _ hi) ⟨by omega, by have := HP.out.2.1; omega⟩ HI.out⟩
          replace HE := Lib.hid (show redE f A = mdE M el from by rw [HE.out, HFR.out.1, if_pos hsf])
          have HLT := Lib.hid hB2.lt
          clear hsf hO hO'
          go_wp2_with fail
          refine hmd.mono ?_
          clear hmd
          rintro e9 w3 ⟨km, vm, em, rfl, hC6, hm0, hm1⟩
          obtain ⟨p1, n1, c1, p2, n2, c2, rfl, rfl⟩ := md_form hm0 hm1
          have HM := Lib.hid (And.intro hm0 hm1)
          obtain ⟨z0, z1, z2, f0, f1, f2⟩ := hB2.fr hC6
          obtain ⟨⟨g0, g1⟩, g2⟩ := set3_cells (.int .i64 km) (.slice p1 n1 c1) (.slice p2 n2 c2) z0 z1 z2
          have HCW := Lib.hid (HC2.out.tr hC6)
          have HO3 := Lib.hid (HO.out.fr hC6)
          clear hm0 hm1 hC6 hB2 t0 t1 t2 t3 t4 t5
          go_wp2
          simp [bodyPost, results, Try.results20, go_sem, g0, g1, g2]
          rw [HAA.out, HE.out, HFR.out.1]
          by_cases hq : mdE M el = 0
          · obtain ⟨rfl, hv, ho⟩ := HM.out.1 hq
            rw [hq, if_pos rfl, hv]
            rw [hv] at *
            exact leaveAE HO3.out ho (Nat.le_succ _) (Nat.lt_succ_self _) HLT.out HCW.out
          · obtain ⟨rfl, hv, hv2⟩ := HM.out.2 hq
            rw [if_neg hq, hv, hv2]
            exact leaveNo (Nat.le_succ _) HCW.out
        · replace HE := Lib.hid (show redE f A = 9 from by rw [HE.out, HFR.out.1, hsf]; rfl)
          obtain ⟨z0, z1, z2, f0, f1, f2⟩ := hB2
          obtain ⟨⟨g0, g1⟩, g2⟩ := set3_cells (.int .i64 0) (.slice none 0 0) (.slice none 0 0) z0 z1 z2
          clear hsf t0 t1 t2 t3 t4 t5
          go_wp2
          simp [bodyPost, results, Try.results20, go_sem, g0, g1, g2]
          rw [HAA.out, HE.out]
          exact leaveNo (Nat.le_succ _) HC2.out
  · obtain ⟨n, hn⟩ : ∃ n, fineE f A = n := ⟨_, rfl⟩
    have HR := Lib.hid (show redE f A = n ∧ redA f A = noA from ⟨by unfold redE; rw [if_neg hz, hn], by unfold redA redE; rw [if_neg hz, if_neg hz]⟩)
    have hzn : (n != 0) = true := by rw [← hn]; exact bne_iff_ne.2 hz
    unfold GaveT at hbg
    rw [hn] at hbg hz
    have HZ := Lib.hid hz
    clear hz hn
    go_enter Try.func20, Try.ntmps20
    go_wp2_with fail
    refine hbg.mono ?_
    clear hbg
    rintro e9 w1 ⟨tv, rfl, _, h2, hC1⟩
    obtain rfl := h2 HZ.out
    unfold noT tbl
    have hC2 := hC1.alloc (.cells #[.int .i64 0, .int .i64 0, .slice none 0 0, .slice none 0 0, .int .i64 0, .int .i64 0] 86)
    obtain ⟨z0, z1, z2, f0, f1, f2⟩ := hB0.fr hC2
    obtain ⟨⟨g0, g1⟩, g2⟩ := set3_cells (.int .i64 0) (.slice none 0 0) (.slice none 0 0) z0 z1 z2
    have HC1 := Lib.hid (HC.out.tr hC2)
    clear hC1 hB0 h2 hC2
    go_wp2
    simp [bodyPost, results, Try.results20, go_sem, g0, g1, g2]
    rw [HR.out.1, HR.out.2]
    exact leaveNo (Nat.le_succ _) HC1.out
end Go.Proofs.Ytjmlekdgipinfaa
