/- Lists of notes; what a log is asked. -/
import Derived.Test.YtpiboaoifcajdaaNtN
namespace Go.Proofs.Ytpiboaoifcajdaa
open Go.RowKit Go.Shelf
attribute [local go_sem] Oper.semAt_some

structure NtAt (W : World) (b o : Nat) (x : Nt) : Prop where
  c0 : W.cell? ⟨b, o, none⟩ = some (.int .i64 x.k)
  c1 : W.cell? ⟨b, o + 1, none⟩ = some (.int .i64 x.a)
  c2 : W.cell? ⟨b, o + 2, none⟩ = some (.int .i64 x.b)
  c3 : W.cell? ⟨b, o + 3, none⟩ = some (.int .i64 x.n)
/-- The slice value v reads as the notes l. -/
structure Nts (W : World) (v : Value) (l : List Nt) : Prop where
  form : ∃ ao c, v = .slice ao l.length c ∧ (ao = none → l = [] ∧ c = 0)
  cells : ∀ j (h : j < l.length), ∃ b o c, v = .slice (some ⟨b, o, none⟩) l.length c ∧ NtAt W b (o + j * 4) l[j]
theorem NtAt.chg {S : Nat → Prop} {w w' : World} {b o : Nat} {x : Nt} (h : NtAt w b o x) (hC : Chg S w w') (hb : ¬ S b) : NtAt w' b o x :=
  ⟨hC.cell h.c0 hb, hC.cell h.c1 hb, hC.cell h.c2 hb, hC.cell h.c3 hb⟩
theorem Nts.fr {w w' : World} {v : Value} {l : List Nt} (h : Nts w v l) (hC : Chg (fun _ => False) w w') : Nts w' v l :=
  ⟨h.form, fun j hj => by obtain ⟨b, o, c, e, hx⟩ := h.cells j hj; exact ⟨b, o, c, e, hx.chg hC id⟩⟩
theorem flatN_at : ∀ (l : List Nt) (j i : Nat) (h : j < l.length), i < 4 → (flatN l)[j * 4 + i]? = (ntL l[j])[i]?
  | x :: r, 0, i, _, hi => by
    rw [flatN, List.flatMap_cons, List.getElem?_append_left (by simp [ntL]; omega)]
    simp
  | x :: r, j + 1, i, h, hi => by
    rw [flatN, List.flatMap_cons, List.getElem?_append_right (by simp [ntL]; omega)]
    have := flatN_at r j i (by simpa using h) hi
    rw [flatN] at this
    rw [show (j + 1) * 4 + i - (ntL x).length = j * 4 + i by simp [ntL]; omega, this]
    simp
theorem flatN_one' (l : List Nt) : ∀ u ∈ flatN l, u.oneCell' = true := by
  intro u hu
  obtain ⟨x, _, hx⟩ := List.mem_flatMap.1 hu
  simp [ntL] at hx
  rcases hx with rfl | rfl | rfl | rfl <;> rfl
theorem Nts.of_owns {w : World} {base : Nat} {v : Value} {l : List Nt} (h : w.ownsRow base 23 4 v l.length (flatN l)) : Nts w v l := by
  rcases h.2 with ⟨rfl, h0⟩ | ⟨g, cap, cur, rfl, _⟩
  · have : l = [] := List.eq_nil_of_length_eq_zero h0
    subst this
    exact ⟨⟨none, 0, rfl, fun _ => ⟨rfl, rfl⟩⟩, fun j hj => (by simp at hj)⟩
  · refine ⟨⟨_, _, rfl, fun e => (by cases e)⟩, fun j hj => ⟨g, 0, cap, rfl, ?_⟩⟩
    have q (i : Nat) (u : Value) (hi : i < 4) (hu : (ntL l[j])[i]? = some u) : w.cell? ⟨g, 0 + j * 4 + i, none⟩ = some u := by
      have hc := h.cells (g := g) rfl (j * 4 + i) u ((flatN_at l j i hj hi).trans hu)
      rw [Addr.add_lit] at hc
      rw [← hc]
      congr 2
      omega
    exact ⟨q 0 _ (by omega) rfl, q 1 _ (by omega) rfl, q 2 _ (by omega) rfl, q 3 _ (by omega) rfl⟩
theorem Nts.src {w : World} {ao : Option Addr} {n c : Nat} {l : List Nt} (h : Nts w (.slice ao n c) l) : ∀ j u, (flatN l)[j]? = some u → ∃ ad, ao = some ad ∧ w.cell? (ad.add j) = some u := by
  intro j u hu
  have hj : j < 4 * l.length := by have := (List.getElem?_eq_some_iff.1 hu).1; rwa [flatN_length] at this
  obtain ⟨b, o, c', e, hx⟩ := h.cells (j / 4) (by omega)
  injection e with e _ _
  refine ⟨_, e, ?_⟩
  rw [Addr.add_lit]
  have h4 := flatN_at l (j / 4) (j % 4) (by omega) (by omega)
  rw [show j / 4 * 4 + j % 4 = j by omega, hu] at h4
  have hm : j % 4 = 0 ∨ j % 4 = 1 ∨ j % 4 = 2 ∨ j % 4 = 3 := by omega
  rcases hm with hm | hm | hm | hm <;> rw [hm] at h4 <;> simp [ntL] at h4 <;> subst h4
  · rw [show o + j = o + j / 4 * 4 by omega]; exact hx.c0
  · rw [show o + j = o + j / 4 * 4 + 1 by omega]; exact hx.c1
  · rw [show o + j = o + j / 4 * 4 + 2 by omega]; exact hx.c2
  · rw [show o + j = o + j / 4 * 4 + 3 by omega]; exact hx.c3
/-- A list of notes in new memory. -/
def GaveNs (w : World) (l : List Nt) (e : Ending) (w' : World) : Prop :=
  ∃ v', e = .returned v' ∧ w'.ownsRow w.heap.size 23 4 v' l.length (flatN l) ∧ Chg (fun _ => False) w w'
set_option maxHeartbeats 400000 in
theorem cloneN_any (v : Value) (l : List Nt) (w : World) (hS : Nts w v l) (hl : l.length ≤ 1000000) : Calls Try.prog 40 #[v] w (GaveNs w l) := by
  obtain ⟨i0, hi, hz0, hz1, hz2⟩ := info_parts info_note
  obtain ⟨ao, c, hu, hn⟩ := hS.form
  have HS := Lib.hid (hu ▸ hS)
  subst hu
  clear hS
  have hnil := fun (W : World) (a : Option Addr) (n c : Nat) => Lib.run_eql_slice_nil (P := Try.prog) W 40 23 a n c 0 0 und_notes
  cases ao with
  | none =>
    obtain ⟨h1, h0⟩ := hn rfl
    subst h1
    subst h0
    go_enter Try.func40, Try.ntmps40
    go_wp2
    go_ret
    exact ⟨_, rfl, World.ownsRow_nil _ _ _ _, Chg.refl _ _⟩
  | some ad =>
    clear hn
    go_enter Try.func40, Try.ntmps40
    go_wp2_with (refine wpList_append_own_any rfl (.tmp 5) (.tmp 6) 40 rfl w.heap.size 23 i0 (.agg #[.int .i64 0, .int .i64 0, .int .i64 0, .int .i64 0]) 4 32 und_notes hi hz0 hz1 hz2 rfl (by decide) (.slice (some ⟨w.heap.size, 0, none⟩) 0 0) 0 [] rfl (World.ownsRow_lit w #[] 0 (Nat.le_refl _) (Nat.zero_le _) rfl) (some ad) l.length c (flatN l) rfl (by rw [flatN_length]; omega) (HS.out.fr ((Chg.refl _ _).alloc _)).src (flatN_one' l) (by unfold maxLen; omega) (by omega) (by simp) ?_; intro v2 w2 hown hg _ hO2; rw [Nat.zero_add, List.nil_append] at hown)
    go_ret
    exact ⟨_, rfl, hown, ((Chg.refl _ w).alloc _).grown hg (fun k e => .inr (by simp [Value.ownBlock] at e; omega))⟩
theorem begun_any {W : World} {lb mb base : Nat} {t : St} {v : Value} (h : LogAt W lb mb base t v) : Calls Try.prog 18 #[.pointer (some ⟨lb, 0, none⟩)] W (fun e w' => e = .returned (.bool t.bg) ∧ w' = W) := by
  have h0 := h.c0
  go_enter Try.func18, Try.ntmps18
  go_wp2
  go_ret
  exact ⟨rfl, rfl⟩
theorem begun_none (W : World) : Calls Try.prog 18 #[.pointer none] W (fun e w' => e = .returned (.bool false) ∧ w' = W) := by
  go_enter Try.func18, Try.ntmps18
  go_wp2
  go_ret
  exact ⟨rfl, rfl⟩
theorem notes_any {W : World} {lb mb base : Nat} {t : St} {v : Value} (h : LogAt W lb mb base t v) (hl : t.l.length ≤ 1000000) : Calls Try.prog 16 #[.pointer (some ⟨lb, 0, none⟩)] W (GaveNs W t.l) := by
  have h1 := h.c1
  have hc := cloneN_any v t.l W (Nts.of_owns h.own) hl
  obtain ⟨ao, L, cp, rfl, _⟩ := owns_name h.own
  go_enter Try.func16, Try.ntmps16
  go_wp2_with fail
  refine hc.mono ?_
  rintro e w1 ⟨v1, rfl, h1, h2⟩
  go_wp2
  go_ret
  exact ⟨_, rfl, h1, h2⟩
theorem notes_none (W : World) : Calls Try.prog 16 #[.pointer none] W (fun e w' => e = .returned (.slice none 0 0) ∧ w' = W) := by
  go_enter Try.func16, Try.ntmps16
  go_wp2
  go_ret
  exact ⟨rfl, rfl⟩
def FileV (o : Option Int) : Value := .tuple #[.int .i64 (o.getD 0), .bool o.isSome]
theorem file_any {W : World} {lb mb base : Nat} {t : St} {v : Value} (h : LogAt W lb mb base t v) (hok : ∀ x ∈ t.fl, x.ok) (k a b : Int) (hk : In64 k) (ha : In64 a) (hb : In64 b) :
    Calls Try.prog 41 #[.pointer (some ⟨lb, 0, none⟩), .agg #[.int .i64 k, .int .i64 a, .int .i64 b]] W (fun e w' => e = .returned (FileV (fileOf t.fl k a b)) ∧ Chg (fun _ => False) W w') := by
  have h2 := h.c2
  have hC := (Chg.refl (fun _ => False) W).alloc (.cells #[.int .i64 k, .int .i64 a, .int .i64 b] 80)
  have hr := (h.fil.chg hC.drew id).look hok hk ha hb
  have h2d := hC.drew.cell h2 id
  have h0d : ((W.alloc (.cells #[.int .i64 k, .int .i64 a, .int .i64 b] 80)).drew).cell? ⟨W.heap.size, 0, none⟩ = some (.int .i64 k) := new_cell W _ _ rfl
  have h1d : ((W.alloc (.cells #[.int .i64 k, .int .i64 a, .int .i64 b] 80)).drew).cell? ⟨W.heap.size, 1, none⟩ = some (.int .i64 a) := new_cell W _ _ rfl
  have h3d : ((W.alloc (.cells #[.int .i64 k, .int .i64 a, .int .i64 b] 80)).drew).cell? ⟨W.heap.size, 2, none⟩ = some (.int .i64 b) := new_cell W _ _ rfl
  unfold FileV
  simp only [keyV] at hr
  generalize (fileOf t.fl k a b).getD 0 = z at *
  generalize (fileOf t.fl k a b).isSome = q at *
  go_enter Try.func41, Try.ntmps41
  go_wp2_with fail
  refine wp_region_held_drew (S := fun w' => w'.cell? ⟨lb, 2, none⟩ = some (.map (some mb)) ∧ w'.cell? ⟨W.heap.size, 0, none⟩ = some (.int .i64 k) ∧ w'.cell? ⟨W.heap.size, 1, none⟩ = some (.int .i64 a) ∧ w'.cell? ⟨W.heap.size, 2, none⟩ = some (.int .i64 b) ∧ (Instr.lookup 73 (.map (some mb)) (.agg #[.int .i64 k, .int .i64 a, .int .i64 b]) true).run Try.prog w' = .ok (.tuple #[.int .i64 z, .bool q]) w') (by kernel_rfl) ⟨h2d, h0d, h1d, h3d, hr⟩ (fun hHeld => ?_)
  clear hr h2d h0d h1d h3d
  refine' wpAnyH_take (i := 0) (oi := _) (v := .pointer (some ⟨lb, 0, none⟩)) ?hi0 (by kernel_rfl) (by kernel_rfl) (by kernel_rfl) ?hq0 (Or.inl ⟨?hw0, fun w hSw => ?hy0⟩) hHeld ?hk0
  case hi0 => (simp only [List.getElem?_toArray, List.getElem?_cons_zero]; rfl)
  case hq0 => exact fun _ _ _ h => h
  case hw0 => rfl
  case hy0 => first | (go_simp; done) | (go_simp; with_reducible rfl)
  simp only [Act.put, List.setIfInBounds_toArray, List.set_cons_zero, List.set_cons_succ]
  refine' wpAnyH_take (i := 1) (oi := _) (v := .pointer (some ⟨lb, 0, none⟩)) ?hi1 (by kernel_rfl) (by kernel_rfl) (by kernel_rfl) ?hq1 (Or.inl ⟨?hw1, fun w hSw => ?hy1⟩) hHeld ?hk1
  case hi1 => (simp only [List.getElem?_toArray, List.getElem?_cons_succ, List.getElem?_cons_zero]; rfl)
  case hq1 => exact fun _ _ _ h => h
  case hw1 => rfl
  case hy1 => first | (go_simp; done) | (go_simp; with_reducible rfl)
  simp only [Act.put, List.setIfInBounds_toArray, List.set_cons_zero, List.set_cons_succ]
  refine' wpAnyH_take (i := 2) (oi := _) (v := .pointer (some ⟨lb, 2, none⟩)) ?hi2 (by kernel_rfl) (by kernel_rfl) (by kernel_rfl) ?hq2 (Or.inl ⟨?hw2, fun w hSw => ?hy2⟩) hHeld ?hk2
  case hi2 => (simp only [List.getElem?_toArray, List.getElem?_cons_succ, List.getElem?_cons_zero]; rfl)
  case hq2 => exact fun _ _ _ h => h
  case hw2 => rfl
  case hy2 => first | (go_simp; done) | (go_simp; with_reducible rfl)
  simp only [Act.put, List.setIfInBounds_toArray, List.set_cons_zero, List.set_cons_succ]
  refine' wpAnyH_take (i := 3) (oi := _) (v := .map (some mb)) ?hi3 (by kernel_rfl) (by kernel_rfl) (by kernel_rfl) ?hq3 (Or.inl ⟨?hw3, fun w hSw => ?hy3⟩) hHeld ?hk3
  case hi3 => (simp only [List.getElem?_toArray, List.getElem?_cons_succ, List.getElem?_cons_zero]; rfl)
  case hq3 => exact fun _ _ _ h => h
  case hw3 => rfl
  case hy3 => first | (go_simp; done) | (go_simp; with_reducible rfl)
  simp only [Act.put, List.setIfInBounds_toArray, List.set_cons_zero, List.set_cons_succ]
  refine' wpAnyH_take (i := 4) (oi := _) (v := .agg #[.int .i64 k, .int .i64 a, .int .i64 b]) ?hi4 (by kernel_rfl) (by kernel_rfl) (by kernel_rfl) ?hq4 (Or.inl ⟨?hw4, fun w hSw => ?hy4⟩) hHeld ?hk4
  case hi4 => (simp only [List.getElem?_toArray, List.getElem?_cons_succ, List.getElem?_cons_zero]; rfl)
  case hq4 => exact fun _ _ _ h => h
  case hw4 => rfl
  case hy4 => first | (go_simp; done) | (go_simp; with_reducible rfl)
  simp only [Act.put, List.setIfInBounds_toArray, List.set_cons_zero, List.set_cons_succ]
  refine' wpAnyH_take (i := 5) (oi := _) (v := .tuple #[.int .i64 z, .bool q]) ?hi5 (by kernel_rfl) (by kernel_rfl) (by kernel_rfl) ?hq5 (Or.inl ⟨?hw5, fun w hSw => ?hy5⟩) hHeld ?hk5
  case hi5 => (simp only [List.getElem?_toArray, List.getElem?_cons_succ, List.getElem?_cons_zero]; rfl)
  case hq5 => exact fun _ _ _ h => h
  case hw5 => rfl
  case hy5 => first | (go_simp; done) | (go_simp; with_reducible rfl)
  simp only [Act.put, List.setIfInBounds_toArray, List.set_cons_zero, List.set_cons_succ]
  refine' wpAnyH_take (i := 6) (oi := _) (v := .tuple #[.int .i64 z, .bool q]) ?hi6 (by kernel_rfl) (by kernel_rfl) (by kernel_rfl) ?hq6 (Or.inl ⟨?hw6, fun w hSw => ?hy6⟩) hHeld ?hk6
  case hi6 => (simp only [List.getElem?_toArray, List.getElem?_cons_succ, List.getElem?_cons_zero]; rfl)
  case hq6 => exact fun _ _ _ h => h
  case hw6 => rfl
  case hy6 => first | (go_simp; done) | (go_simp; with_reducible rfl)
  simp only [Act.put, List.setIfInBounds_toArray, List.set_cons_zero, List.set_cons_succ]
  refine' wpAnyH_take (i := 7) (oi := _) (v := .int .i64 z) ?hi7 (by kernel_rfl) (by kernel_rfl) (by kernel_rfl) ?hq7 (Or.inl ⟨?hw7, fun w hSw => ?hy7⟩) hHeld ?hk7
  case hi7 => (simp only [List.getElem?_toArray, List.getElem?_cons_succ, List.getElem?_cons_zero]; rfl)
  case hq7 => exact fun _ _ _ h => h
  case hw7 => rfl
  case hy7 => first | (go_simp; done) | (go_simp; with_reducible rfl)
  simp only [Act.put, List.setIfInBounds_toArray, List.set_cons_zero, List.set_cons_succ]
  refine' wpAnyH_take (i := 8) (oi := _) (v := .bool q) ?hi8 (by kernel_rfl) (by kernel_rfl) (by kernel_rfl) ?hq8 (Or.inl ⟨?hw8, fun w hSw => ?hy8⟩) hHeld ?hk8
  case hi8 => (simp only [List.getElem?_toArray, List.getElem?_cons_succ, List.getElem?_cons_zero]; rfl)
  case hq8 => exact fun _ _ _ h => h
  case hw8 => rfl
  case hy8 => first | (go_simp; done) | (go_simp; with_reducible rfl)
  simp only [Act.put, List.setIfInBounds_toArray, List.set_cons_zero, List.set_cons_succ]
  refine' wpAnyH_take (i := 9) (oi := _) (v := .int .i64 z) ?hi9 (by kernel_rfl) (by kernel_rfl) (by kernel_rfl) ?hq9 (Or.inl ⟨?hw9, fun w hSw => ?hy9⟩) hHeld ?hk9
  case hi9 => (simp only [List.getElem?_toArray, List.getElem?_cons_succ, List.getElem?_cons_zero]; rfl)
  case hq9 => exact fun _ _ _ h => h
  case hw9 => rfl
  case hy9 => first | (go_simp; done) | (go_simp; with_reducible rfl)
  simp only [Act.put, List.setIfInBounds_toArray, List.set_cons_zero, List.set_cons_succ]
  refine' wpAnyH_take (i := 10) (oi := _) (v := .bool q) ?hi10 (by kernel_rfl) (by kernel_rfl) (by kernel_rfl) ?hq10 (Or.inl ⟨?hw10, fun w hSw => ?hy10⟩) hHeld ?hk10
  case hi10 => (simp only [List.getElem?_toArray, List.getElem?_cons_succ, List.getElem?_cons_zero]; rfl)
  case hq10 => exact fun _ _ _ h => h
  case hw10 => rfl
  case hy10 => first | (go_simp; done) | (go_simp; with_reducible rfl)
  simp only [Act.put, List.setIfInBounds_toArray, List.set_cons_zero, List.set_cons_succ]
  refine wpAnyH_done (by kernel_rfl) ?_ _
  go_wp2
  go_ret2
  exact ⟨rfl, hC.drew⟩
theorem file_none (k a b : Int) (W : World) : Calls Try.prog 41 #[.pointer none, .agg #[.int .i64 k, .int .i64 a, .int .i64 b]] W (fun e w' => e = .returned (FileV none) ∧ Chg (fun _ => False) W w') := by
  unfold FileV
  go_enter Try.func41, Try.ntmps41
  go_wp2
  go_ret2
  exact ⟨rfl, (Chg.refl _ W).alloc _⟩
theorem tile_any {W : World} {lb mb base : Nat} {t : St} {v : Value} (h : LogAt W lb mb base t v) (hok : ∀ x ∈ t.fl, x.ok) (a b : Int) (ha : In64 a) (hb : In64 b) :
    Calls Try.prog 23 #[.pointer (some ⟨lb, 0, none⟩), .int .i64 a, .int .i64 b] W (fun e w' => e = .returned (FileV (fileOf t.fl 2 a b)) ∧ Chg (fun _ => False) W w') := by
  have h := file_any h hok 2 a b (by unfold In64; omega) ha hb
  unfold FileV at *
  go_enter Try.func23, Try.ntmps23
  go_wp2_with fail
  refine h.mono ?_
  rintro e w1 ⟨rfl, hC⟩
  go_wp2
  go_ret2
  exact ⟨rfl, hC⟩
theorem tile_none (a b : Int) (W : World) : Calls Try.prog 23 #[.pointer none, .int .i64 a, .int .i64 b] W (fun e w' => e = .returned (FileV none) ∧ Chg (fun _ => False) W w') := by
  have h := file_none 2 a b W
  unfold FileV at *
  go_enter Try.func23, Try.ntmps23
  go_wp2_with fail
  refine h.mono ?_
  rintro e w1 ⟨rfl, hC⟩
  go_wp2
  go_ret2
  exact ⟨rfl, hC⟩
theorem run_any {W : World} {lb mb base : Nat} {t : St} {v : Value} (h : LogAt W lb mb base t v) (hok : ∀ x ∈ t.fl, x.ok) (a b : Int) (ha : In64 a) (hb : In64 b) :
    Calls Try.prog 19 #[.pointer (some ⟨lb, 0, none⟩), .int .i64 a, .int .i64 b] W (fun e w' => e = .returned (FileV (fileOf t.fl 3 a b)) ∧ Chg (fun _ => False) W w') := by
  have h := file_any h hok 3 a b (by unfold In64; omega) ha hb
  unfold FileV at *
  go_enter Try.func19, Try.ntmps19
  go_wp2_with fail
  refine h.mono ?_
  rintro e w1 ⟨rfl, hC⟩
  go_wp2
  go_ret2
  exact ⟨rfl, hC⟩
theorem run_none (a b : Int) (W : World) : Calls Try.prog 19 #[.pointer none, .int .i64 a, .int .i64 b] W (fun e w' => e = .returned (FileV none) ∧ Chg (fun _ => False) W w') := by
  have h := file_none 3 a b W
  unfold FileV at *
  go_enter Try.func19, Try.ntmps19
  go_wp2_with fail
  refine h.mono ?_
  rintro e w1 ⟨rfl, hC⟩
  go_wp2
  go_ret2
  exact ⟨rfl, hC⟩
end Go.Proofs.Ytpiboaoifcajdaa
