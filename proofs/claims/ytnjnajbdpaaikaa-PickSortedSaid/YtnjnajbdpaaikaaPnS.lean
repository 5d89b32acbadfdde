/- PickSorted. -/
import Derived.Test.YtnjnajbdpaaikaaPnG
import Derived.Test.YtnjnajbdpaaikaaArY
namespace Go.Proofs.Ytnjnajbdpaaikaa
open Go.RowKit Go.Shelf

theorem vec_no {A : Ar} (h : ¬ Vec A) : vecE A = 110 ∨ vecE A = 3 := by
  unfold vecE
  cases hc : chkB A with
  | false => exact .inl rfl
  | true =>
    rw [if_pos rfl, if_neg (fun h1 => h ⟨hc, h1⟩)]
    exact .inr rfl
theorem grN (u : Value) (A : Ar) (down : Bool) (m : Int) (w : World) (hA : Ara w u A) (hl : A.e.length ≤ 1000000) (h : vecE A = m) (h0 : m ≠ 0) : Calls Try.prog 28 #[u, .bool down] w (GaveAE w noA m) :=
  (grade_any u A down w hA hl).mono fun e w' hg => by
    obtain ⟨Z, _, hg⟩ := hg
    rw [h, if_neg h0] at hg
    exact hg
/-- What a grade says of two neighbours. -/
theorem gr_two {e Z : List Int} {down : Bool} (hZ : OkS (keyK e down) 0 Z) {p : Nat} (hp : p + 1 < Z.length) {a b : Int} (ha : (ixV e Z)[p]? = some a) (hb : (ixV e Z)[p + 1]? = some b) : (if down then b < a else a < b) ∨ (a = b ∧ Z[p]'(by omega) < Z[p + 1]) := by
  have h := (List.pairwise_iff_getElem.1 hZ.2) p (p + 1) (by omega) hp (by omega)
  unfold ixV at ha hb
  rw [List.getElem?_map, List.getElem?_eq_getElem (by omega)] at ha hb
  simp only [Option.map_some, Option.some.injEq] at ha hb
  unfold Lo keyK at h
  cases down with
  | false =>
    simp only [Bool.false_eq_true, if_false] at h ⊢
    rw [ha, hb] at h
    exact h
  | true =>
    simp only [if_true] at h ⊢
    rw [ha, hb] at h
    rcases h with h | h
    · exact .inl (by omega)
    · exact .inr ⟨by omega, h.2⟩
theorem okS_nodup {K : Int → Int} {Z : List Int} (h : OkS K 0 Z) : Z.Nodup := by
  rw [h.1.nodup_iff]
  exact (iotaS_lt 0 Z.length).imp fun h => by omega
/-- The marks: none for the places to come. -/
def Marks (Z T : List Int) (j : Nat) : Prop := ∀ i, j ≤ i → ∀ q : Nat, Z[i]? = some ((q : Int) + 1) → T.getD q 0 = 0
theorem marks_next {Z T : List Int} {j q : Nat} (h : Marks Z T j) (hZ : Z.Nodup) (hq : Z[j]? = some ((q : Int) + 1)) : Marks Z (T.set q 1) (j + 1) := by
  intro i hi r hr
  have hne : q ≠ r := by
    intro e
    subst e
    obtain ⟨h1, e1⟩ := List.getElem?_eq_some_iff.1 hq
    obtain ⟨h2, e2⟩ := List.getElem?_eq_some_iff.1 hr
    have := (List.pairwise_iff_getElem.1 hZ) j i h1 h2 (by omega)
    exact this (e1.trans e2.symm)
  have := h i (by omega) r hr
  simp only [List.getD_eq_getElem?_getD] at this ⊢
  rw [List.getElem?_set_ne hne]
  exact this
set_option maxRecDepth 100000 in
set_option maxHeartbeats 4000000 in
theorem pickSorted_walk (v : Value) (A : Ar) (down : Bool) (W : World) (h : OkArr W v A) : Calls Try.prog 7 #[v, .bool down] W (True_ W) := by
  have hA := h.1
  clear h
  have hal := alive_any
  obtain ⟨vt, ve, hv, ht, he⟩ := id hA
  subst hv
  obtain ⟨ta, ct, rfl, _⟩ := ht.form
  obtain ⟨ae, ce, rfl, _⟩ := he.form
  have hb := BoxA.new (A := A) 25 hA
  have HC := Lib.hid ((Chg.refl (fun _ => False) W).alloc (.cells #[.int .i64 A.k, .slice ta A.s.length ct, .slice ae A.e.length ce] 25))
  clear ht he
  go_enter Try.func7, Try.ntmps7
  go_wp2_with fail
  refine (hal _).mono ?_
  clear hal
  rintro e9 w1 ⟨rfl, hC1⟩
  replace hb := hb.fr hC1
  replace HC := Lib.hid (HC.out.tr hC1)
  clear hC1 hA
  obtain ⟨x0, hx0⟩ : ∃ x3, W.heap.size = x3 := ⟨_, rfl⟩
  rw [hx0] at hb
  obtain ⟨sa, cs, sb, cb, ⟨y0, y1, y2⟩, hb1⟩ := id hb
  obtain ⟨_, l1, l2⟩ := cell_two w1 (.int .i64 A.k) (.slice sa A.s.length cs) (.slice sb A.e.length cb) 25
  have hCl := (Chg.refl (fun _ => False) w1).alloc (.cells #[.int .i64 A.k, .slice sa A.s.length cs, .slice sb A.e.length cb] 25)
  obtain ⟨g, hg⟩ : ∃ g, grt15 A = g := ⟨_, rfl⟩
  have hg1 := great15_one sa sb cs cb _ A _ ⟨l1, l2⟩ g hg
  replace HC := Lib.hid (HC.out.tr hCl)
  replace hb := hb.fr hCl
  clear l1 l2 hCl
  cases g with
  | true =>
    clear hb hg
    go_wp2_with fail
    refine hg1.mono ?_
    clear hg1
    rintro e9 w2 ⟨rfl, rfl⟩
    go_wp2
    go_ret
    exact ⟨rfl, HC.out⟩
  | false =>
    have hle := grt15_not hg
    go_wp2_with fail
    refine hg1.mono ?_
    clear hg1 y0 y1 y2 hb1 hg hx0
    rintro e9 w3 ⟨rfl, rfl⟩
    generalize w1.alloc (.cells #[.int .i64 A.k, .slice sa A.s.length cs, .slice sb A.e.length cb] 25) = w3 at *
    obtain ⟨sa, cs, sb, cb, ⟨y0, y1, y2⟩, hb1⟩ := id hb
    by_cases hv : Vec A
    · have HV := Lib.hid hv
      have HLE := Lib.hid hle
      clear hv hle
      have h1 := grC _ A down _ hb1 HV.out
      go_wp2_with fail
      refine h1.mono ?_
      clear h1 y0 y1 y2 hb1
      rintro e9 w4 ⟨Z, ⟨hZ, hZl⟩, hZg⟩
      revert hZg
      have HZ := Lib.hid (And.intro hZ hZl)
      clear hZ hZl
      revert e9 w4
      rintro e9 w4 ⟨v9, rfl, ho9, hC9⟩
      obtain ⟨a9, c9, b9, d9, rfl, _, _⟩ := ara_new ho9
      have hbg := BoxA.new (A := ⟨1, A.s, Z⟩) 25 ho9.ara
      have hC8 := hC9.alloc (.cells #[.int .i64 1, .slice a9 A.s.length c9, .slice b9 Z.length d9] 25)
      replace HC := Lib.hid (HC.out.tr hC8)
      obtain ⟨xg, hx⟩ : ∃ x, w4.heap.size = x := ⟨_, rfl⟩
      rw [hx] at hbg
      clear hC9 ho9
      replace hb := hb.fr hC8
      clear hC8
      go_wp2_with fail
      clear hx
      obtain ⟨S, hS⟩ : ∃ S, ixV A.e Z = S := ⟨_, rfl⟩
      have HS := Lib.hid hS
      have HSl := Lib.hid (show S.length = A.e.length by rw [← hS, ixV_length]; exact HZ.out.2)
      clear hS
      generalize w4.alloc (.cells #[.int .i64 1, .slice a9 A.s.length c9, .slice b9 Z.length d9] 25) = q6 at *
      obtain ⟨sa, cs, sb, cb, ⟨y0, y1, y2⟩, hb1⟩ := id hb
      obtain ⟨sa2, cs2, sb2, cb2, ⟨p0, p1, p2⟩, hb2⟩ := id hbg
      simp only at p0 p1 p2 hb2
      go_cut [8, 9] (fun s10 s11 wx => ∃ x, s10 = .pointer (some ⟨x, 0, none⟩) ∧ s11 = .int .i64 0 ∧ BoxA wx x ⟨A.k, A.s, S⟩ ∧ Chg (fun _ => False) q6 wx)
      case first =>
        have HR := Lib.hid (show ∀ w' u v, Ara w' u A → Axs w' v [⟨false, ⟨1, A.s, Z⟩⟩] → Calls Try.prog 16 #[u, v] w' (GaveAE w' ⟨A.k, A.s, S⟩ 0) from fun w' u v h1 h2 => by
          rw [← HS.out]
          exact ixC u v A A.s Z w' h1 h2 HV.out rfl HZ.out.2 (by have := okS_mem HZ.out.1; rw [HZ.out.2] at this; exact this))
        clear hb hbg
        have KP := Lib.hid (show ∀ w', Chg (fun _ => False) q6 w' → (Chg (fun _ => False) q6 w' ∧ (w'.cell? ⟨x0, 0, none⟩ = some (.int .i64 A.k) ∧ w'.cell? ⟨x0, 1, none⟩ = some (.slice sa A.s.length cs) ∧ w'.cell? ⟨x0, 2, none⟩ = some (.slice sb A.e.length cb)) ∧ w'.cell? ⟨xg, 0, none⟩ = some (.int .i64 1) ∧ w'.cell? ⟨xg, 1, none⟩ = some (.slice sa2 A.s.length cs2) ∧ w'.cell? ⟨xg, 2, none⟩ = some (.slice sb2 Z.length cb2)) from fun w' h => ⟨h, ⟨h.cell y0 id, h.cell y1 id, h.cell y2 id⟩, h.cell p0 id, h.cell p1 id, h.cell p2 id⟩)
        have HA := Lib.hid (show ∀ w', Chg (fun _ => False) q6 w' → Ara w' (.agg #[.int .i64 A.k, .slice sa A.s.length cs, .slice sb A.e.length cb]) A from fun w' h => hb1.fr h)
        have HB := Lib.hid (show ∀ w', Chg (fun _ => False) q6 w' → Ara w' (.agg #[.int .i64 1, .slice sa2 A.s.length cs2, .slice sb2 Z.length cb2]) ⟨1, A.s, Z⟩ from fun w' h => hb2.fr h)
        go_region_held3 (fun w' => Chg (fun _ => False) q6 w' ∧ (w'.cell? ⟨x0, 0, none⟩ = some (.int .i64 A.k) ∧ w'.cell? ⟨x0, 1, none⟩ = some (.slice sa A.s.length cs) ∧ w'.cell? ⟨x0, 2, none⟩ = some (.slice sb A.e.length cb)) ∧ w'.cell? ⟨xg, 0, none⟩ = some (.int .i64 1) ∧ w'.cell? ⟨xg, 1, none⟩ = some (.slice sa2 A.s.length cs2) ∧ w'.cell? ⟨xg, 2, none⟩ = some (.slice sb2 Z.length cb2)) ((refine KP.out _ ?_; (
          repeat (first | (with_reducible exact Chg.refl _ _) | (with_reducible assumption) | (with_reducible refine chg_drew' ?_) | (with_reducible refine chg_alloc' ?_) | (with_reducible refine Chg.tr ?_ hC7) | (with_reducible refine Chg.tr ?_ hC6) | (with_reducible refine Chg.tr ?_ hC5) | (refine Chg.setCell ?_ (.inr (by simp only []; omega)) _))
          ))) (first
          | (go_at_call 21
             (with_reducible refine (at_any _ _ _ _ _ _ _ _).mono ?_)
             rintro e9 w6 ⟨rfl, hC6⟩
             have hA6 : Ara w6 _ ⟨1, A.s, Z⟩ := HB.out _ (by
               repeat (first | (with_reducible exact Chg.refl _ _) | (with_reducible assumption) | (with_reducible refine chg_drew' ?_) | (with_reducible refine chg_alloc' ?_) | (with_reducible refine Chg.tr ?_ hC7) | (with_reducible refine Chg.tr ?_ hC6) | (with_reducible refine Chg.tr ?_ hC5) | (refine Chg.setCell ?_ (.inr (by simp only []; omega)) _))
               )
             have hs6 : q6.heap.size ≤ w6.heap.size := (by have := hC6.size; (try simp at this); omega)
             (first
               | (have hBc := hBno; have hB6 := hBc.fr hC6)
               | (have hBc := hBno.fr ((Chg.refl (fun _ => False) _).drew); have hB6 := hBc.fr hC6)
               | (have hBc := hBno.fr ((Chg.refl (fun _ => False) _).alloc (.cells #[] 2)); have hB6 := hBc.fr hC6)
               | (have hBc := hBno.fr (((Chg.refl (fun _ => False) _).alloc (.cells #[] 2)).drew); have hB6 := hBc.fr hC6)
               | (have hBc := Bx.new q6 (.int .i64 0) (.slice none 0 0) (.slice none 0 0) 25; have hB6 := hBc.fr hC6)
               | (have hBc := (Bx.new q6 (.int .i64 0) (.slice none 0 0) (.slice none 0 0) 25).fr ((Chg.refl (fun _ => False) _).drew); have hB6 := hBc.fr hC6)
               | (have hBc := (Bx.new q6 (.int .i64 0) (.slice none 0 0) (.slice none 0 0) 25).fr ((Chg.refl (fun _ => False) _).alloc (.cells #[] 2)); have hB6 := hBc.fr hC6)
               | (have hBc := (Bx.new q6 (.int .i64 0) (.slice none 0 0) (.slice none 0 0) 25).fr (((Chg.refl (fun _ => False) _).alloc (.cells #[] 2)).drew); have hB6 := hBc.fr hC6)
               | (have hBc := Bx.at1 q6 (.cells #[] 2) 25; have hB6 := hBc.fr hC6)
               | (have hBc := (Bx.at1 q6 (.cells #[] 2) 25).fr ((Chg.refl (fun _ => False) _).drew); have hB6 := hBc.fr hC6)
               | skip)
             )
          | (go_at_call 16
             with_reducible refine (HR.out _ _ _ ?_ ?_).mono ?_
             · refine HA.out _ ?_
               repeat (first | (with_reducible exact Chg.refl _ _) | (with_reducible assumption) | (with_reducible refine chg_drew' ?_) | (with_reducible refine chg_alloc' ?_) | (with_reducible refine Chg.tr ?_ hC7) | (with_reducible refine Chg.tr ?_ hC6) | (with_reducible refine Chg.tr ?_ hC5) | (refine Chg.setCell ?_ (.inr (by simp only []; omega)) _))
             ·
               first
               | exact axs_at hA6 rfl (by repeat (first | (with_reducible exact Chg.refl _ _) | (with_reducible assumption) | (with_reducible refine chg_drew' ?_) | (with_reducible refine chg_alloc' ?_) | (with_reducible refine Chg.tr ?_ hC7) | (with_reducible refine Chg.tr ?_ hC6) | (with_reducible refine Chg.tr ?_ hC5) | (refine Chg.setCell ?_ (.inr (by simp only []; omega)) _)))
               | exact axs_at (hA6.fr ((Chg.refl _ _).alloc (.cells #[.int .i64 0, .slice none 0 0, .slice none 0 0] 25))) (World.size_alloc _ _) (by repeat (first | (with_reducible exact Chg.refl _ _) | (with_reducible assumption) | (with_reducible refine chg_drew' ?_) | (with_reducible refine chg_alloc' ?_) | (with_reducible refine Chg.tr ?_ hC7) | (with_reducible refine Chg.tr ?_ hC6) | (with_reducible refine Chg.tr ?_ hC5) | (refine Chg.setCell ?_ (.inr (by simp only []; omega)) _)))
             rintro e9 w7 ⟨v7, rfl, ho7, hC7⟩
             obtain ⟨a7, c7, a8, c8, rfl, _, _⟩ := ara_new ho7
             have hs7 : w6.heap.size ≤ w7.heap.size := (by have := hC7.size; (try simp at this); omega)
             (first
               | (have hBc := hB6; have hB7 := hBc.fr hC7)
               | (have hBc := hB6.fr ((Chg.refl (fun _ => False) _).drew); have hB7 := hBc.fr hC7)
               | (have hBc := hB6.fr ((Chg.refl (fun _ => False) _).alloc (.cells #[.bool false, .int .i64 1, .slice sa2 A.s.length cs2, .slice sb2 Z.length cb2] 39)); have hB7 := hBc.fr hC7)
               | (have hBc := hB6.fr (((Chg.refl (fun _ => False) _).alloc (.cells #[.bool false, .int .i64 1, .slice sa2 A.s.length cs2, .slice sb2 Z.length cb2] 39)).drew); have hB7 := hBc.fr hC7)
               | (have hBc := Bx.new w6 (.int .i64 0) (.slice none 0 0) (.slice none 0 0) 25; have hB7 := hBc.fr hC7)
               | (have hBc := (Bx.new w6 (.int .i64 0) (.slice none 0 0) (.slice none 0 0) 25).fr ((Chg.refl (fun _ => False) _).drew); have hB7 := hBc.fr hC7)
               | (have hBc := (Bx.new w6 (.int .i64 0) (.slice none 0 0) (.slice none 0 0) 25).fr ((Chg.refl (fun _ => False) _).alloc (.cells #[.bool false, .int .i64 1, .slice sa2 A.s.length cs2, .slice sb2 Z.length cb2] 39)); have hB7 := hBc.fr hC7)
               | (have hBc := (Bx.new w6 (.int .i64 0) (.slice none 0 0) (.slice none 0 0) 25).fr (((Chg.refl (fun _ => False) _).alloc (.cells #[.bool false, .int .i64 1, .slice sa2 A.s.length cs2, .slice sb2 Z.length cb2] 39)).drew); have hB7 := hBc.fr hC7)
               | (have hBc := Bx.at1 w6 (.cells #[.bool false, .int .i64 1, .slice sa2 A.s.length cs2, .slice sb2 Z.length cb2] 39) 25; have hB7 := hBc.fr hC7)
               | (have hBc := (Bx.at1 w6 (.cells #[.bool false, .int .i64 1, .slice sa2 A.s.length cs2, .slice sb2 Z.length cb2] 39) 25).fr ((Chg.refl (fun _ => False) _).drew); have hB7 := hBc.fr hC7)
               | skip)
             (first
              | (have hl7 := Lib.hid hBc.lt
                 obtain ⟨z0, z1, z2, f0, f1, f2⟩ := id hB7)
              | skip))
          | fail)
        all_goals
          rename_i hHd
          go_wp2_with fail
          go_meet
          refine ⟨_, rfl, rfl, ?_, hHd.1⟩
          first
          | exact BoxA.new (A := ⟨A.k, A.s, S⟩) 25 ho7.ara
          | exact BoxA.set (A := ⟨A.k, A.s, S⟩) hB7 ho7 hl7.out
      case rest =>
        obtain ⟨xs, rfl, rfl, hbs, hCc⟩ := hcut
        replace hb := hb.fr hCc
        replace hbg := hbg.fr hCc
        replace HC := Lib.hid (HC.out.tr hCc)
        clear y0 y1 y2 hb1 p0 p1 p2 hb2 hCc
        obtain ⟨q7, hw7⟩ : ∃ q7 : World, q7 = wc := ⟨_, rfl⟩
        subst hw7
        obtain ⟨sa, cs, sb, cb, ⟨y0, y1, y2⟩, hb1⟩ := id hb
        obtain ⟨sa2, cs2, sb2, cb2, ⟨p0, p1, p2⟩, hb2⟩ := id hbg
        obtain ⟨sa3, cs3, sb3, cb3, ⟨r0, r1, r2⟩, hb3⟩ := id hbs
        simp only at p0 p1 p2 hb2 r0 r1 r2 hb3
        obtain ⟨n, hn⟩ : ∃ n, A.e.length = n := ⟨_, rfl⟩
        have hZn : Z.length = n := HZ.out.2.trans hn
        have hSn : S.length = n := HSl.out.trans hn
        obtain ⟨_, _, eZ, _, lZ⟩ := id hb2
        injection eZ with eZ
        injection eZ with eZ
        injection eZ with _ eZ
        injection eZ with _ eZ
        injection eZ with eZ _
        rw [← eZ] at lZ
        obtain ⟨_, _, eS, _, lS⟩ := id hb3
        injection eS with eS
        injection eS with eS
        injection eS with _ eS
        injection eS with _ eS
        injection eS with eS _
        rw [← eS] at lS
        clear eZ eS
        have HLZ := Lib.hid lZ
        have HLS := Lib.hid lS
        rw [hn] at y2
        rw [hZn] at p2 HLZ
        rw [hSn] at r2 HLS
        have HN := Lib.hid (show Z.length = n ∧ S.length = n ∧ n ≤ 1500 from ⟨hZn, hSn, by have := HLE.out; omega⟩)
        obtain ⟨i0, hi, hz0, hz1, hz2⟩ := info_parts info_int
        clear hZn hSn hn hb1 hb2 hb3 lZ lS hb hbg hbs y0 y1 p0 p1 r0 r1
        have hin : i0.bytes * n ≤ 281474976710656 := by rw [hz2]; have := HN.out.2.2; omega
        have HIN := Lib.hid hin
        clear hin
        have Y2 := Lib.hid y2
        have P2 := Lib.hid p2
        have R2 := Lib.hid r2
        go_wp2_with (at_make; refine wpList_make_full _ rfl (.tmp 71) (.tmp 71) 22 rfl q7.heap.size 3 i0 (.int .i64 0) 1 Try.underlying22 hi hz0 hz1 .i64 .i64 (n : Int) (n : Int) n rfl rfl rfl rfl HIN.out (by have := HN.out.2.2; unfold maxLen; omega) (Nat.le_refl _) ?_; intro w8 hown8 hg8; have hC8 := (Chg.refl (fun _ => False) q7).grown hg8 (fun k e => by cases e); have HO8 := Lib.hid hown8; replace y2 := hC8.cell y2 id; replace p2 := hC8.cell p2 id; replace r2 := hC8.cell r2 id; have HC8 := Lib.hid hC8; clear hown8 hg8 hC8)
        go_loopw [76] (fun i wr => ∃ j : Nat, j ≤ n ∧ i = .int .i64 j ∧ (∃ T, T.length = n ∧ Own wr q7.heap.size 3 (.slice (some ⟨q7.heap.size, 0, none⟩) n n) T ∧ Marks Z T j) ∧ Chg (fun _ => False) q7 wr) (fun i _ => n - (intOf i).toNat)
        case atStart =>
          refine ⟨0, Nat.zero_le _, rfl, ⟨List.replicate n 0, by simp, ?_, ?_⟩, HC8.out⟩
          · unfold Own
            have h := HO8.out
            rw [Nat.mul_one] at h
            rw [show (Value.int IntKind.i64 0).cells = #[.int .i64 0] from rfl, toList_madeCells_one] at h
            simpa [I] using h
          · intro i _ q hq
            simp only [List.getD_eq_getElem?_getD, List.getElem?_replicate]
            split <;> rfl
        case round =>
          obtain ⟨j, hj, rfl, ⟨T, hTl, hO, hM⟩, hC⟩ := hrel
          clear y2 p2 r2
          have y2 := hC.cell Y2.out id
          have p2 := hC.cell P2.out id
          by_cases hlt : j < n
          · have hlt' : (j : Int) < (n : Int) := by omega
            have hm1 : n - (j + 1) < n - j := by omega
            have HM1 := Lib.hid hm1
            have hjz : j < Z.length := by have := HN.out.1; omega
            have hzb := okS_mem HZ.out.1 _ (List.getElem_mem hjz)
            obtain ⟨q, hq⟩ : ∃ q : Nat, Z[j] = (q : Int) + 1 := ⟨(Z[j] - 1).toNat, by omega⟩
            have hZq : Z[j]? = some ((q : Int) + 1) := by rw [List.getElem?_eq_getElem hjz, hq]
            have hqn : q < n := by have := HN.out.1; omega
            have hqT : q < T.length := by omega
            obtain ⟨b0, o0, c0, e1, hx⟩ := (HLZ.out.fr hC).at hjz
            rw [HN.out.1] at e1
            injection e1 with e1 _ e3
            subst e1 e3
            rw [hq] at hx
            obtain ⟨ht, hf⟩ := own_cell hO hqT
            have hT0 : T[q] = 0 := by
              have := hM j (Nat.le_refl _) q hZq
              rwa [List.getD_eq_getElem?_getD, List.getElem?_eq_getElem hqT] at this
            rw [hT0] at ht
            have HO := Lib.hid (own_put hO q 1)
            have HMk := Lib.hid (marks_next hM (okS_nodup HZ.out.1) hZq)
            have HTl := Lib.hid (show (T.set q 1).length = n by rw [List.length_set]; exact hTl)
            have HC' := Lib.hid (hC.setCell (p := (⟨q7.heap.size, q, none⟩ : Addr)) (.inr (Nat.le_refl _)) (.int .i64 1))
            have HZq := Lib.hid hZq
            have HJN := Lib.hid hlt
            have d1 : decide ((q : Int) + 1 < 1) = false := decide_eq_false (by omega)
            have d2 : decide ((n : Int) < (q : Int) + 1) = false := decide_eq_false (by omega)
            have wq : IntKind.i64.wrap (q : Int) = (q : Int) := IntWalk.i64_in _ (by have := HN.out.2.2; omega)
            have wj : IntKind.i64.wrap ((j : Int) + 1) = (j : Int) + 1 := IntWalk.i64_in _ (by have := HN.out.2.2; omega)
            have hq0 : (0 : Int) ≤ (q : Int) := by omega
            have hq1 : (q : Int) < (n : Int) := by omega
            clear hM hO hC hTl hT0 hqT hzb hq hZq hjz hm1 hj hlt
            by_cases h0 : j = 0
            · have d0 : ((j : Int) == 0) = true := by simp [h0]
              clear h0
              go_wp2
              go_roundw
              case rel =>
                exact ⟨j + 1, HJN.out, by go_num, ⟨T.set q 1, HTl.out, HO.out, HMk.out⟩, HC'.out⟩
              case measure => exact HM1.out
            · have d0 : ((j : Int) == 0) = false := by
                rw [beq_eq_false_iff_ne]
                omega
              obtain ⟨p, hp⟩ : ∃ p, j = p + 1 := ⟨j - 1, by omega⟩
              have HP := Lib.hid hp
              have hpz : p + 1 < Z.length := by have := HN.out.1; have := HJN.out; omega
              have hps : p + 1 < S.length := by have := HN.out.2.1; have := HJN.out; omega
              have hgt := gr_two (a := S[p]) (b := S[p + 1]) HZ.out.1 hpz (by rw [HS.out]; exact List.getElem?_eq_getElem (by omega)) (by rw [HS.out]; exact List.getElem?_eq_getElem hps)
              have hz1 : Z[p + 1] = (q : Int) + 1 := by
                have h := HZq.out
                rw [hp, List.getElem?_eq_getElem hpz] at h
                exact Option.some.inj h
              rw [hz1] at hgt
              clear hz1
              obtain ⟨b1, o1, c1, e1, hx1⟩ := HLZ.out.at (j := p) (by omega)
              rw [HN.out.1] at e1
              injection e1 with e1 _ e3
              injection e1 with e1
              injection e1 with e1 e2 _
              subst e1 e2 e3
              obtain ⟨b2, o2, c2, e1, hs1⟩ := HLS.out.at (j := p) (by omega)
              rw [HN.out.2.1] at e1
              injection e1 with e1 _ e3
              subst e1 e3
              obtain ⟨b3, o3, c3, e1, hs2⟩ := HLS.out.at hps
              rw [HN.out.2.1] at e1
              injection e1 with e1 _ e3
              injection e1 with e1
              injection e1 with e1 e2 _
              subst e1 e2 e3
              obtain ⟨zp, hzp⟩ : ∃ z, Z[p] = z := ⟨_, rfl⟩
              obtain ⟨sp, hsp⟩ : ∃ z, S[p] = z := ⟨_, rfl⟩
              obtain ⟨sj, hsj⟩ : ∃ z, S[p + 1] = z := ⟨_, rfl⟩
              rw [hzp] at hx1 hgt
              rw [hsp] at hs1 hgt
              rw [hsj] at hs2 hgt
              rw [← hp] at hs2
              have HXL := Lib.hid (And.intro hx1 (And.intro hs1 hs2))
              have HGT := Lib.hid hgt
              have hpj : (p : Int) = (j : Int) - 1 := by omega
              have wpj : IntKind.i64.wrap ((j : Int) - 1) = (p : Int) := by rw [← hpj]; exact IntWalk.i64_in _ (by have := HN.out.2.2; have := HJN.out; omega)
              have hpn : (p : Int) < (n : Int) := by omega
              have hp0 : (0 : Int) ≤ (p : Int) := by omega
              clear hx1 hs1 hs2 hgt hzp hsp hsj hpz hps hp h0 hpj
              go_wp2_with fail
              generalize wr.setCell ⟨q7.heap.size, q, none⟩ (.int .i64 1) = W9 at *
              have p2 := HC'.out.cell P2.out id
              have r2 := HC'.out.cell R2.out id
              have hx1 := HC'.out.cell HXL.out.1 id
              have hs1 := HC'.out.cell HXL.out.2.1 id
              have hs2 := HC'.out.cell HXL.out.2.2 id
              cases down with
              | false =>
                rcases HGT.out with h | h
                · simp only [Bool.false_eq_true, if_false] at h
                  have e1 : decide (sj < sp) = false := decide_eq_false (by omega)
                  have e2 : (sp == sj) = false := by rw [beq_eq_false_iff_ne]; omega
                  clear h
                  go_quiet (fail)
                  go_wp2
                  go_roundw
                  case rel => first | exact ⟨j + 1, HJN.out, by go_num, ⟨T.set q 1, HTl.out, HO.out.fr ((Chg.refl _ _).drewN _), HMk.out⟩, HC'.out.drewN _⟩ | exact ⟨_, _, _, .int .i64 ((j : Int) + 1), ⟨j + 1, HJN.out, by go_num, ⟨T.set q 1, HTl.out, HO.out.fr ((Chg.refl _ _).drewN _), HMk.out⟩, HC'.out.drewN _⟩, rfl, rfl, rfl, rfl⟩ | exact ⟨_, _, _, _, .int .i64 ((j : Int) + 1), ⟨j + 1, HJN.out, by go_num, ⟨T.set q 1, HTl.out, HO.out.fr ((Chg.refl _ _).drewN _), HMk.out⟩, HC'.out.drewN _⟩, rfl, rfl, rfl, rfl, rfl⟩ | exact ⟨_, _, _, _, _, .int .i64 ((j : Int) + 1), ⟨j + 1, HJN.out, by go_num, ⟨T.set q 1, HTl.out, HO.out.fr ((Chg.refl _ _).drewN _), HMk.out⟩, HC'.out.drewN _⟩, rfl, rfl, rfl, rfl, rfl, rfl⟩ | exact ⟨_, _, _, _, _, _, .int .i64 ((j : Int) + 1), ⟨j + 1, HJN.out, by go_num, ⟨T.set q 1, HTl.out, HO.out.fr ((Chg.refl _ _).drewN _), HMk.out⟩, HC'.out.drewN _⟩, rfl, rfl, rfl, rfl, rfl, rfl, rfl⟩ | fail
                  case measure => exact HM1.out
                · obtain ⟨rfl, h⟩ := h
                  have e1 : decide (sp < sp) = false := decide_eq_false (by omega)
                  have e3 : decide ((q : Int) + 1 < zp) = false := decide_eq_false (by omega)
                  clear h
                  go_quiet (fail)
                  go_wp2
                  go_roundw
                  case rel => first | exact ⟨j + 1, HJN.out, by go_num, ⟨T.set q 1, HTl.out, HO.out.fr ((Chg.refl _ _).drewN _), HMk.out⟩, HC'.out.drewN _⟩ | exact ⟨_, _, _, .int .i64 ((j : Int) + 1), ⟨j + 1, HJN.out, by go_num, ⟨T.set q 1, HTl.out, HO.out.fr ((Chg.refl _ _).drewN _), HMk.out⟩, HC'.out.drewN _⟩, rfl, rfl, rfl, rfl⟩ | exact ⟨_, _, _, _, .int .i64 ((j : Int) + 1), ⟨j + 1, HJN.out, by go_num, ⟨T.set q 1, HTl.out, HO.out.fr ((Chg.refl _ _).drewN _), HMk.out⟩, HC'.out.drewN _⟩, rfl, rfl, rfl, rfl, rfl⟩ | exact ⟨_, _, _, _, _, .int .i64 ((j : Int) + 1), ⟨j + 1, HJN.out, by go_num, ⟨T.set q 1, HTl.out, HO.out.fr ((Chg.refl _ _).drewN _), HMk.out⟩, HC'.out.drewN _⟩, rfl, rfl, rfl, rfl, rfl, rfl⟩ | exact ⟨_, _, _, _, _, _, .int .i64 ((j : Int) + 1), ⟨j + 1, HJN.out, by go_num, ⟨T.set q 1, HTl.out, HO.out.fr ((Chg.refl _ _).drewN _), HMk.out⟩, HC'.out.drewN _⟩, rfl, rfl, rfl, rfl, rfl, rfl, rfl⟩ | fail
                  case measure => exact HM1.out
              | true =>
                rcases HGT.out with h | h
                · simp only [if_true] at h
                  have e1 : decide (sp < sj) = false := decide_eq_false (by omega)
                  have e2 : (sp == sj) = false := by rw [beq_eq_false_iff_ne]; omega
                  clear h
                  go_quiet (fail)
                  go_wp2
                  go_roundw
                  case rel => first | exact ⟨j + 1, HJN.out, by go_num, ⟨T.set q 1, HTl.out, HO.out.fr ((Chg.refl _ _).drewN _), HMk.out⟩, HC'.out.drewN _⟩ | exact ⟨_, _, _, .int .i64 ((j : Int) + 1), ⟨j + 1, HJN.out, by go_num, ⟨T.set q 1, HTl.out, HO.out.fr ((Chg.refl _ _).drewN _), HMk.out⟩, HC'.out.drewN _⟩, rfl, rfl, rfl, rfl⟩ | exact ⟨_, _, _, _, .int .i64 ((j : Int) + 1), ⟨j + 1, HJN.out, by go_num, ⟨T.set q 1, HTl.out, HO.out.fr ((Chg.refl _ _).drewN _), HMk.out⟩, HC'.out.drewN _⟩, rfl, rfl, rfl, rfl, rfl⟩ | exact ⟨_, _, _, _, _, .int .i64 ((j : Int) + 1), ⟨j + 1, HJN.out, by go_num, ⟨T.set q 1, HTl.out, HO.out.fr ((Chg.refl _ _).drewN _), HMk.out⟩, HC'.out.drewN _⟩, rfl, rfl, rfl, rfl, rfl, rfl⟩ | exact ⟨_, _, _, _, _, _, .int .i64 ((j : Int) + 1), ⟨j + 1, HJN.out, by go_num, ⟨T.set q 1, HTl.out, HO.out.fr ((Chg.refl _ _).drewN _), HMk.out⟩, HC'.out.drewN _⟩, rfl, rfl, rfl, rfl, rfl, rfl, rfl⟩ | fail
                  case measure => exact HM1.out
                · obtain ⟨rfl, h⟩ := h
                  have e1 : decide (sp < sp) = false := decide_eq_false (by omega)
                  have e3 : decide ((q : Int) + 1 < zp) = false := decide_eq_false (by omega)
                  clear h
                  go_quiet (fail)
                  go_wp2
                  go_roundw
                  case rel => first | exact ⟨j + 1, HJN.out, by go_num, ⟨T.set q 1, HTl.out, HO.out.fr ((Chg.refl _ _).drewN _), HMk.out⟩, HC'.out.drewN _⟩ | exact ⟨_, _, _, .int .i64 ((j : Int) + 1), ⟨j + 1, HJN.out, by go_num, ⟨T.set q 1, HTl.out, HO.out.fr ((Chg.refl _ _).drewN _), HMk.out⟩, HC'.out.drewN _⟩, rfl, rfl, rfl, rfl⟩ | exact ⟨_, _, _, _, .int .i64 ((j : Int) + 1), ⟨j + 1, HJN.out, by go_num, ⟨T.set q 1, HTl.out, HO.out.fr ((Chg.refl _ _).drewN _), HMk.out⟩, HC'.out.drewN _⟩, rfl, rfl, rfl, rfl, rfl⟩ | exact ⟨_, _, _, _, _, .int .i64 ((j : Int) + 1), ⟨j + 1, HJN.out, by go_num, ⟨T.set q 1, HTl.out, HO.out.fr ((Chg.refl _ _).drewN _), HMk.out⟩, HC'.out.drewN _⟩, rfl, rfl, rfl, rfl, rfl, rfl⟩ | exact ⟨_, _, _, _, _, _, .int .i64 ((j : Int) + 1), ⟨j + 1, HJN.out, by go_num, ⟨T.set q 1, HTl.out, HO.out.fr ((Chg.refl _ _).drewN _), HMk.out⟩, HC'.out.drewN _⟩, rfl, rfl, rfl, rfl, rfl, rfl, rfl⟩ | fail
                  case measure => exact HM1.out
          · have hjn : ¬ (j : Int) < (n : Int) := by omega
            go_wp2
            go_ret
            exact ⟨rfl, HC.out.tr hC⟩
    · rcases vec_no hv with hm | hm
      · have h1 := grN _ A down 110 _ hb1 (by omega) hm (by decide)
        clear hm hv hle hb
        go_wp2_with fail
        refine h1.mono ?_
        clear h1
        rintro e9 w4 ⟨v9, rfl, ho9, hC9⟩
        obtain ⟨a9, c9, b9, d9, rfl, _, _⟩ := ara_new ho9
        have HC9 := Lib.hid (HC.out.tr (hC9.alloc (.cells #[.int .i64 noA.k, .slice a9 noA.s.length c9, .slice b9 noA.e.length d9] 25)))
        go_wp2
        go_ret
        exact ⟨rfl, HC9.out⟩
      · have h1 := grN _ A down 3 _ hb1 (by omega) hm (by decide)
        clear hm hv hle hb
        go_wp2_with fail
        refine h1.mono ?_
        clear h1
        rintro e9 w4 ⟨v9, rfl, ho9, hC9⟩
        obtain ⟨a9, c9, b9, d9, rfl, _, _⟩ := ara_new ho9
        have HC9 := Lib.hid (HC.out.tr (hC9.alloc (.cells #[.int .i64 noA.k, .slice a9 noA.s.length c9, .slice b9 noA.e.length d9] 25)))
        go_wp2
        go_ret
        exact ⟨rfl, HC9.out⟩
end Go.Proofs.Ytnjnajbdpaaikaa
