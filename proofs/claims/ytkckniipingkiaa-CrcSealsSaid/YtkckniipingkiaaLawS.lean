/- CrcSeals' walk. -/
import Derived.Test.YtkckniipingkiaaRef2
namespace Go.Proofs.Ytkckniipingkiaa
open Go.RowKit

theorem owns_cells {w : World} {base : Nat} {e : TypeId} {v : Value} {n : Nat} {xs : List Value} (h : w.ownsRow base e 1 v n xs) :
    ∀ q, q < n → ∃ g c u, v = .slice (some ⟨g, 0, none⟩) n c ∧ base ≤ g ∧ w.cell? ⟨g, q, none⟩ = some u ∧ w.frozen? ⟨g, q, none⟩ = false ∧ xs[q]? = some u := by
  intro q hq
  have hl : xs.length = n := by simpa using h.1
  rcases h.2 with ⟨_, h0⟩ | ⟨g, cap, cur, rfl, hb, hg, _, _, _, _⟩
  · omega
  · have hx : xs[q]? = some xs[q] := List.getElem?_eq_getElem (by omega)
    have hc := h.cells (g := g) rfl q _ hx
    rw [Addr.add_lit, Nat.zero_add] at hc
    exact ⟨g, cap, _, rfl, hb, hc, by unfold World.frozen?; rw [hg]; simp, hx⟩
/-- A row of bytes of one's own, that may be written. -/
def Open8 (w : World) (ao : Option Addr) (n : Nat) : Prop := ∀ q, q < n → ∃ (g : Nat) (m : Int), ao = some ⟨g, 0, none⟩ ∧ w.cell? ⟨g, q, none⟩ = some (.int .u8 m) ∧ w.frozen? ⟨g, q, none⟩ = false
theorem open8_of {w : World} {base : Nat} {ao : Option Addr} {L c n : Nat} {xs : List UInt8} (h : w.ownsRow base 5 1 (.slice ao L c) n (xs.map B)) : Open8 w ao n := fun q hq => by
  obtain ⟨g, c', u, e1, _, e3, e4, e5⟩ := owns_cells h q hq
  injection e1 with e1 _ _
  rw [List.getElem?_map] at e5
  cases hx : xs[q]? with
  | none => rw [hx] at e5; cases e5
  | some y => rw [hx] at e5; exact ⟨g, _, e1, by rw [e3, ← Option.some.inj e5]; rfl, e4⟩
theorem Open8.chg {w w' : World} {ao : Option Addr} {n : Nat} {S : Nat → Prop} (h : Open8 w ao n) (hC : Chg S w w') (hS : ∀ g, ao = some ⟨g, 0, none⟩ → ¬ S g) : Open8 w' ao n := fun q hq => by
  obtain ⟨g, m, e, c, f⟩ := h q hq
  exact ⟨g, m, e, hC.cell c (hS g e), hC.frozen c f (hS g e)⟩
theorem Open8.set {w : World} {g n j : Nat} {z : Int} (h : Open8 w (some ⟨g, 0, none⟩) n) (hj : j < n) : Open8 (w.setCell ⟨g, j, none⟩ (.int .u8 z)) (some ⟨g, 0, none⟩) n := fun q hq => by
  obtain ⟨g2, m2, e2, c2, f2⟩ := h q hq
  obtain ⟨g3, m3, e3, c3, f3⟩ := h j hj
  injection e2 with e2
  injection e2 with e2 _
  injection e3 with e3
  injection e3 with e3 _
  subst e2
  by_cases hqj : q = j
  · subst hqj
    exact ⟨g, _, rfl, World.cell?_setCell_same' _ _ _ (by rw [c2]; rfl), by rw [World.frozen?_setCell]; exact f2⟩
  · exact ⟨g, m2, rfl, by rw [World.cell?_setCell_other _ _ _ _ (by first | (simp; done) | (simp; omega))]; exact c2, by rw [World.frozen?_setCell]; exact f2⟩

theorem r2open_any (u : Value) (xs : List UInt8) (w : World) (hS : Sl w u (xs.map B)) (hl : xs.length + 100 ≤ 140737488355328) : Calls Try.prog 14 #[u] w (GaveO w (openL xs) (openE xs)) := by
  obtain ⟨ao, c, rfl, _⟩ := hS.form
  rw [List.length_map] at hS
  rw [List.length_map]
  by_cases h4 : xs.length < 4
  · have h1 : openOk xs = false := by unfold openOk; rw [decide_eq_false (by omega)]; rfl
    rw [show openE xs = 20 by unfold openE; rw [h1]; rfl, show openL xs = [] by unfold openL; rw [h1]; rfl]
    exact r2open_short ao c xs.length w h4
  · have h := r2open_main ao c xs.length (xs.length - 4) xs w rfl (by omega) hS hl
    have hok : openOk xs = decide (sealL (xs.take (xs.length - 4)) = xs) := by unfold openOk; rw [decide_eq_true (by omega), Bool.true_and]
    rw [show openE xs = if sealL (xs.take (xs.length - 4)) = xs then 0 else 20 by unfold openE; rw [hok]; simp, show openL xs = if sealL (xs.take (xs.length - 4)) = xs then xs.take (xs.length - 4) else [] by unfold openL; rw [hok]; simp]
    exact h

theorem crcSeals_big (n c : Nat) (ao : Option Addr) (W : World) (h1 : (10000 : Int) < n) : Calls Try.prog 5 #[.slice ao n c] W (True_ W) := by
  go_enter Try.func5, Try.ntmps5
  go_wp2
  go_ret
  exact ⟨rfl, Chg.refl _ _⟩

set_option maxRecDepth 100000 in
set_option maxHeartbeats 3000000 in
theorem crcSeals_main (ao : Option Addr) (c n : Nat) (xs : List UInt8) (W : World) (m1 : xs.length = n) (hS : Sl W (.slice ao n c) (xs.map B)) (h1 : ¬ (10000 : Int) < n) : Calls Try.prog 5 #[.slice ao n c] W (True_ W) := by
  obtain ⟨i0, hi, hz0, hz1, hz2⟩ := info_parts Try.info5
  have HS := Lib.hid hS
  have HM := Lib.hid m1
  clear hS m1
  go_enter Try.func5, Try.ntmps5
  go_wp2_with (first
    | (refine wpList_append_own_any rfl (.tmp 14) (.tmp 15) 22 rfl W.heap.size 5 i0 (.int .u8 0) 1 1 Try.underlying22 hi hz0 hz1 hz2 rfl (by decide) (.slice (some ⟨W.heap.size, 0, none⟩) 0 0) 0 [] rfl (World.ownsRow_lit W #[] 0 (Nat.le_refl _) (Nat.zero_le _) rfl) ao n c (xs.map B) rfl (by rw [List.length_map, HM.out]; omega) (HS.out.fr ((Chg.refl _ W).alloc _)).src (by simp [B, Value.oneCell']) (by unfold maxLen; omega) (by omega) (by simp) ?_; intro v2 w2 hown2 hg2 _ hO2; have hC2 := ((Chg.refl (fun _ => False) W).alloc (.cells #[] 5)).grown hg2 (fun k e => .inr (by simp [Value.ownBlock] at e; omega)))
    | (refine wpList_append_own_any rfl (.tmp 16) (.tmp 17) 22 rfl W.heap.size 5 i0 (.int .u8 0) 1 1 Try.underlying22 hi hz0 hz1 hz2 rfl (by decide) v2 _ _ rfl (hown2.alloc _) (some ⟨w2.heap.size, 0, none⟩) 1 1 [.int .u8 7] rfl rfl (fun j u hu => ⟨_, rfl, cell_one_new w2 _ _ j u hu⟩) (by simp [Value.oneCell']) (by unfold maxLen; omega) (by omega) (by have := hC2.size; simp; omega) ?_; intro v3 w3 hown3 hg3 _ hO3; have hC3 := (hC2.alloc (.cells #[.int .u8 7] 5)).grown hg3 (fun k e => .inr (hown2.lt k e).1)
       have eAll : ([] ++ xs.map B ++ [Value.int .u8 7]) = (xs ++ [7]).map B := by simp [B]
       rw [eAll] at hown3
       obtain ⟨ao3, L3, c3, rfl, hL3⟩ := owns_name hown3
       have hL : L3 = n + 1 := by rw [hL3.out]; omega
       have HL := Lib.hid hL
       clear hL
       have hOwn := Sl.of_owns hown3
       have hlen1 : (xs ++ [7]).length = n + 1 := by rw [List.length_append, HM.out]; rfl
       obtain ⟨a1, d1, hS1, _, _, _, hcut⟩ := hOwn.slice 22 5 Try.underlying22 sizeOf_u8 0 n (Nat.zero_le _) (by rw [List.length_map, hlen1]; omega)
       replace hcut := hcut rfl
       rw [Nat.sub_zero] at hS1 hcut
       rw [List.drop_zero, ← List.map_take, List.take_append_of_le_length (by rw [HM.out]; omega), List.take_of_length_le (by rw [HM.out]; omega)] at hS1
       have hq : (n : Int) ≤ (L3 : Int) := by have := HL.out; omega))
  have HO := Lib.hid hOwn
  have HS1 := Lib.hid hS1
  have hsl := seal_any _ xs w3 hS1 (by rw [HM.out]; omega)
  clear hS1 hOwn hlen1 eAll hown2 hown3 hg2 hg3 hO2 hO3 hC2 hL3
  go_wp2_with fail
  refine hsl.mono ?_
  clear hsl
  rintro e w4 ⟨v4, rfl, ho4, hC4⟩
  have hop := open_any _ xs w4 (HS1.out.fr hC4) (by rw [HM.out]; omega)
  go_wp2_with fail
  refine hop.mono ?_
  clear hop
  rintro e w5 ⟨v5, rfl, ho5, hC5⟩
  have hro := r2open_any _ xs w5 (HS.out.fr ((hC3.tr hC4).tr hC5)) (by rw [HM.out]; omega)
  go_wp2_with fail
  refine hro.mono ?_
  clear hro
  rintro e w6 ⟨v6, rfl, ho6, hC6⟩
  have hlo : (openL xs).length ≤ n := by
    unfold openL
    split
    · rw [List.length_take, HM.out]; omega
    · exact Nat.zero_le _
  obtain ⟨aoa, La, ca, rfl, hLa⟩ := owns_name ho4
  obtain ⟨aoc, Lc, cc, rfl, hLc⟩ := owns_name ho5
  obtain ⟨aod, Ld, cd, rfl, hLd⟩ := owns_name ho6
  have la1 : La ≤ 140737488355328 := by rw [hLa.out, sealL_length, HM.out]; omega
  have lc1 : Lc ≤ 140737488355328 := by rw [hLc.out]; omega
  obtain ⟨SA, hA1, _, _⟩ := str_name (sealL xs)
  obtain ⟨SC, hC1s, _, _⟩ := str_name (openL xs)
  have cA : ∀ w', Chg (fun _ => False) w6.drew w' → (convert 22 9 (.slice aoa La ca)).run Try.prog w' = .ok (.string SA) w' := fun w' h => by
    have := run_convert_sl (P := Try.prog) 22 9 5 Try.underlying22 Try.underlying5 Try.underlying9 ((Sl.of_owns ho4).fr (((hC5.tr hC6).drew).tr h))
    rw [hA1] at this
    exact this
  have cC : ∀ w', Chg (fun _ => False) w6.drew w' → (convert 22 9 (.slice aoc Lc cc)).run Try.prog w' = .ok (.string SC) w' := fun w' h => by
    have := run_convert_sl (P := Try.prog) 22 9 5 Try.underlying22 Try.underlying5 Try.underlying9 ((Sl.of_owns ho5).fr ((hC6.drew).tr h))
    rw [hC1s] at this
    exact this
  have cD : ∀ w', Chg (fun _ => False) w6.drew w' → (convert 22 9 (.slice aod Ld cd)).run Try.prog w' = .ok (.string SC) w' := fun w' h => by
    have := run_convert_sl (P := Try.prog) 22 9 5 Try.underlying22 Try.underlying5 Try.underlying9 ((Sl.of_owns ho6).fr (((Chg.refl _ w6).drew).tr h))
    rw [hC1s] at this
    exact this
  have hrs := r2seal_any _ xs w6.drew (HS.out.fr ((((hC3.tr hC4).tr hC5).tr hC6).drew)) (by rw [HM.out]; omega)
  have xA := cA _ (Chg.refl _ _)
  have xC := cC _ (Chg.refl _ _)
  have xD := cD _ (Chg.refl _ _)
  have HcA := Lib.hid cA
  have HcC := Lib.hid cC
  have HcD := Lib.hid cD
  have HA1 := Lib.hid hA1
  clear cA cC cD hA1 hC1s hlo hLd
  generalize openE xs = er at *
  go_wp2_with fail
  refine wp_region_held_drew (S := fun w' => Chg (fun _ => False) w6.drew w' ∧ (convert 22 9 (.slice aoa La ca)).run Try.prog w' = .ok (.string SA) w' ∧ (convert 22 9 (.slice aoc Lc cc)).run Try.prog w' = .ok (.string SC) w' ∧ (convert 22 9 (.slice aod Ld cd)).run Try.prog w' = .ok (.string SC) w') (by kernel_rfl) ⟨Chg.refl _ _, xA, xC, xD⟩ (fun hHeld => ?_)
  refine' wpAnyH_take (i := 0) (oi := _) (v := .slice aoa La ca) ?hi0 (by kernel_rfl) (by kernel_rfl) (by kernel_rfl) ?hq0 (Or.inl ⟨?hw0, fun w hSw => ?hy0⟩) hHeld ?hk0
  case hi0 => (simp only [List.getElem?_toArray, List.getElem?_cons_zero]; rfl)
  case hq0 => exact fun _ _ _ h => h
  case hw0 => rfl
  case hy0 => first | (go_simp; done) | (go_simp; with_reducible rfl)
  simp only [Act.put, List.setIfInBounds_toArray, List.set_cons_zero, List.set_cons_succ]
  refine' wpAnyH_take (i := 1) (oi := _) (v := .string SA) ?hi1 (by kernel_rfl) (by kernel_rfl) (by kernel_rfl) ?hq1 (Or.inl ⟨?hw1, fun w hSw => ?hy1⟩) hHeld ?hk1
  case hi1 => (simp only [List.getElem?_toArray, List.getElem?_cons_succ, List.getElem?_cons_zero]; rfl)
  case hq1 => exact fun _ _ _ h => h
  case hw1 => rfl
  case hy1 => first | (go_simp; done) | (go_simp; with_reducible rfl)
  simp only [Act.put, List.setIfInBounds_toArray, List.set_cons_zero, List.set_cons_succ]
  refine' wpAnyH_take (i := 2) (oi := _) (v := .slice ao n c) ?hi2 (by kernel_rfl) (by kernel_rfl) (by kernel_rfl) ?hq2 (Or.inl ⟨?hw2, fun w hSw => ?hy2⟩) hHeld ?hk2
  case hi2 => (simp only [List.getElem?_toArray, List.getElem?_cons_succ, List.getElem?_cons_zero]; rfl)
  case hq2 => exact fun _ _ _ h => h
  case hw2 => rfl
  case hy2 => first | (go_simp; done) | (go_simp; with_reducible rfl)
  simp only [Act.put, List.setIfInBounds_toArray, List.set_cons_zero, List.set_cons_succ]
  refine wpAnyH_ready (rs := [3]) (by kernel_rfl) (by simp) ?_
  refine AllReadyH.cons rfl (fun K hK => ?_) AllReadyH.nil
  go_simp
  go_at_call 15
  refine hrs.mono ?_
  rintro e w7 ⟨v7, rfl, ho7, hC7⟩
  have xA7 := HcA.out _ hC7
  have xC7 := HcC.out _ hC7
  have xD7 := HcD.out _ hC7
  have xS := run_convert_sl (P := Try.prog) 22 9 5 Try.underlying22 Try.underlying5 Try.underlying9 (Sl.of_owns ho7)
  rw [HA1.out] at xS
  refine hK.out _ _ ⟨hC7, xA7, xC7, xD7⟩ (fun hHeld => ?_)
  clear hK K
  refine wpAnyH_change (S' := fun w' => w' = w7) (fun w' h => h ▸ ⟨hC7, xA7, xC7, xD7⟩) _ _ _ _ ?_
  refine' wpAnyH_take (i := 4) (oi := _) (v := .string SA) ?hi4 (by kernel_rfl) (by kernel_rfl) (by kernel_rfl) ?hq4 (Or.inl ⟨?hw4, fun w hSw => ?hy4⟩) rfl ?hk4
  case hi4 => (simp only [List.getElem?_toArray, List.getElem?_cons_succ, List.getElem?_cons_zero]; rfl)
  case hq4 => exact fun _ _ _ h => h
  case hw4 => rfl
  case hy4 => (subst hSw; first | (go_simp; done) | (go_simp; with_reducible rfl))
  simp only [Act.put, List.setIfInBounds_toArray, List.set_cons_zero, List.set_cons_succ]
  refine' wpAnyH_take (i := 5) (oi := _) (v := .bool false) ?hi5 (by kernel_rfl) (by kernel_rfl) (by kernel_rfl) ?hq5 (Or.inl ⟨?hw5, fun w hSw => ?hy5⟩) rfl ?hk5
  case hi5 => (simp only [List.getElem?_toArray, List.getElem?_cons_succ, List.getElem?_cons_zero]; rfl)
  case hq5 => exact fun _ _ _ h => h
  case hw5 => rfl
  case hy5 => (subst hSw; first | (go_simp; done) | (go_simp; with_reducible rfl))
  simp only [Act.put, List.setIfInBounds_toArray, List.set_cons_zero, List.set_cons_succ]
  refine' wpAnyH_take (i := 6) (oi := _) (v := .bool false) ?hi6 (by kernel_rfl) (by kernel_rfl) (by kernel_rfl) ?hq6 (Or.inl ⟨?hw6, fun w hSw => ?hy6⟩) rfl ?hk6
  case hi6 => (simp only [List.getElem?_toArray, List.getElem?_cons_succ, List.getElem?_cons_zero]; rfl)
  case hq6 => exact fun _ _ _ h => h
  case hw6 => rfl
  case hy6 => (subst hSw; first | (go_simp; done) | (go_simp; with_reducible rfl))
  simp only [Act.put, List.setIfInBounds_toArray, List.set_cons_zero, List.set_cons_succ]
  refine' wpAnyH_take (i := 7) (oi := _) (v := .slice aoc Lc cc) ?hi7 (by kernel_rfl) (by kernel_rfl) (by kernel_rfl) ?hq7 (Or.inl ⟨?hw7, fun w hSw => ?hy7⟩) rfl ?hk7
  case hi7 => (simp only [List.getElem?_toArray, List.getElem?_cons_succ, List.getElem?_cons_zero]; rfl)
  case hq7 => exact fun _ _ _ h => h
  case hw7 => rfl
  case hy7 => (subst hSw; first | (go_simp; done) | (go_simp; with_reducible rfl))
  simp only [Act.put, List.setIfInBounds_toArray, List.set_cons_zero, List.set_cons_succ]
  refine' wpAnyH_take (i := 8) (oi := _) (v := .string SC) ?hi8 (by kernel_rfl) (by kernel_rfl) (by kernel_rfl) ?hq8 (Or.inl ⟨?hw8, fun w hSw => ?hy8⟩) rfl ?hk8
  case hi8 => (simp only [List.getElem?_toArray, List.getElem?_cons_succ, List.getElem?_cons_zero]; rfl)
  case hq8 => exact fun _ _ _ h => h
  case hw8 => rfl
  case hy8 => (subst hSw; first | (go_simp; done) | (go_simp; with_reducible rfl))
  simp only [Act.put, List.setIfInBounds_toArray, List.set_cons_zero, List.set_cons_succ]
  refine' wpAnyH_take (i := 9) (oi := _) (v := .slice aod Ld cd) ?hi9 (by kernel_rfl) (by kernel_rfl) (by kernel_rfl) ?hq9 (Or.inl ⟨?hw9, fun w hSw => ?hy9⟩) rfl ?hk9
  case hi9 => (simp only [List.getElem?_toArray, List.getElem?_cons_succ, List.getElem?_cons_zero]; rfl)
  case hq9 => exact fun _ _ _ h => h
  case hw9 => rfl
  case hy9 => (subst hSw; first | (go_simp; done) | (go_simp; with_reducible rfl))
  simp only [Act.put, List.setIfInBounds_toArray, List.set_cons_zero, List.set_cons_succ]
  refine' wpAnyH_take (i := 10) (oi := _) (v := .string SC) ?hi10 (by kernel_rfl) (by kernel_rfl) (by kernel_rfl) ?hq10 (Or.inl ⟨?hw10, fun w hSw => ?hy10⟩) rfl ?hk10
  case hi10 => (simp only [List.getElem?_toArray, List.getElem?_cons_succ, List.getElem?_cons_zero]; rfl)
  case hq10 => exact fun _ _ _ h => h
  case hw10 => rfl
  case hy10 => (subst hSw; first | (go_simp; done) | (go_simp; with_reducible rfl))
  simp only [Act.put, List.setIfInBounds_toArray, List.set_cons_zero, List.set_cons_succ]
  refine' wpAnyH_take (i := 11) (oi := _) (v := .bool false) ?hi11 (by kernel_rfl) (by kernel_rfl) (by kernel_rfl) ?hq11 (Or.inl ⟨?hw11, fun w hSw => ?hy11⟩) rfl ?hk11
  case hi11 => (simp only [List.getElem?_toArray, List.getElem?_cons_succ, List.getElem?_cons_zero]; rfl)
  case hq11 => exact fun _ _ _ h => h
  case hw11 => rfl
  case hy11 => (subst hSw; first | (go_simp; done) | (go_simp; with_reducible rfl))
  simp only [Act.put, List.setIfInBounds_toArray, List.set_cons_zero, List.set_cons_succ]
  refine' wpAnyH_take (i := 12) (oi := _) (v := .bool false) ?hi12 (by kernel_rfl) (by kernel_rfl) (by kernel_rfl) ?hq12 (Or.inl ⟨?hw12, fun w hSw => ?hy12⟩) rfl ?hk12
  case hi12 => (simp only [List.getElem?_toArray, List.getElem?_cons_succ, List.getElem?_cons_zero]; rfl)
  case hq12 => exact fun _ _ _ h => h
  case hw12 => rfl
  case hy12 => (subst hSw; first | (go_simp; done) | (go_simp; with_reducible rfl))
  simp only [Act.put, List.setIfInBounds_toArray, List.set_cons_zero, List.set_cons_succ]
  refine' wpAnyH_take (i := 13) (oi := _) (v := .bool false) ?hi13 (by kernel_rfl) (by kernel_rfl) (by kernel_rfl) ?hq13 (Or.inl ⟨?hw13, fun w hSw => ?hy13⟩) rfl ?hk13
  case hi13 => (simp only [List.getElem?_toArray, List.getElem?_cons_succ, List.getElem?_cons_zero]; rfl)
  case hq13 => exact fun _ _ _ h => h
  case hw13 => rfl
  case hy13 => (subst hSw; first | (go_simp; done) | (go_simp; with_reducible rfl))
  simp only [Act.put, List.setIfInBounds_toArray, List.set_cons_zero, List.set_cons_succ]
  refine' wpAnyH_take (i := 14) (oi := _) (v := .int .i64 er) ?hi14 (by kernel_rfl) (by kernel_rfl) (by kernel_rfl) ?hq14 (Or.inl ⟨?hw14, fun w hSw => ?hy14⟩) rfl ?hk14
  case hi14 => (simp only [List.getElem?_toArray, List.getElem?_cons_succ, List.getElem?_cons_zero]; rfl)
  case hq14 => exact fun _ _ _ h => h
  case hw14 => rfl
  case hy14 => (subst hSw; first | (go_simp; done) | (go_simp; with_reducible rfl))
  simp only [Act.put, List.setIfInBounds_toArray, List.set_cons_zero, List.set_cons_succ]
  refine' wpAnyH_take (i := 15) (oi := _) (v := .int .i64 er) ?hi15 (by kernel_rfl) (by kernel_rfl) (by kernel_rfl) ?hq15 (Or.inl ⟨?hw15, fun w hSw => ?hy15⟩) rfl ?hk15
  case hi15 => (simp only [List.getElem?_toArray, List.getElem?_cons_succ, List.getElem?_cons_zero]; rfl)
  case hq15 => exact fun _ _ _ h => h
  case hw15 => rfl
  case hy15 => (subst hSw; first | (go_simp; done) | (go_simp; with_reducible rfl))
  simp only [Act.put, List.setIfInBounds_toArray, List.set_cons_zero, List.set_cons_succ]
  refine' wpAnyH_take (i := 16) (oi := _) (v := .bool false) ?hi16 (by kernel_rfl) (by kernel_rfl) (by kernel_rfl) ?hq16 (Or.inl ⟨?hw16, fun w hSw => ?hy16⟩) rfl ?hk16
  case hi16 => (simp only [List.getElem?_toArray, List.getElem?_cons_succ, List.getElem?_cons_zero]; rfl)
  case hq16 => exact fun _ _ _ h => h
  case hw16 => rfl
  case hy16 => (subst hSw; first | (go_simp; done) | (go_simp; with_reducible rfl))
  simp only [Act.put, List.setIfInBounds_toArray, List.set_cons_zero, List.set_cons_succ]
  refine' wpAnyH_take (i := 17) (oi := _) (v := .bool false) ?hi17 (by kernel_rfl) (by kernel_rfl) (by kernel_rfl) ?hq17 (Or.inl ⟨?hw17, fun w hSw => ?hy17⟩) rfl ?hk17
  case hi17 => (simp only [List.getElem?_toArray, List.getElem?_cons_succ, List.getElem?_cons_zero]; rfl)
  case hq17 => exact fun _ _ _ h => h
  case hw17 => rfl
  case hy17 => (subst hSw; first | (go_simp; done) | (go_simp; with_reducible rfl))
  simp only [Act.put, List.setIfInBounds_toArray, List.set_cons_zero, List.set_cons_succ]
  refine wpAnyH_done (by kernel_rfl) ?_ _
  have hD7 : Chg (fun _ => False) w6 w7 := ((Chg.refl _ w6).drew).tr hC7
  have ho4' := (hC5.tr (hC6.tr hD7)).owns ho4 (fun _ _ => id)
  have ho5' := (hC6.tr hD7).owns ho5 (fun _ _ => id)
  have hA7 : Open8 w7 aoa La := by rw [hLa.out]; exact open8_of ho4'
  have hC7o : Open8 w7 aoc Lc := by rw [hLc.out]; exact open8_of ho5'
  have bA : ∀ g, aoa = some ⟨g, 0, none⟩ → w3.heap.size ≤ g ∧ g < w4.heap.size := fun g e => by subst e; exact ho4.lt g rfl
  have bC : ∀ g, aoc = some ⟨g, 0, none⟩ → w4.heap.size ≤ g ∧ g < w5.heap.size := fun g e => by subst e; exact ho5.lt g rfl
  have h34 := hC4.size
  have hC37 : Chg (fun _ => False) w3 w7 := hC4.tr (hC5.tr (hC6.tr hD7))
  clear ho4 ho5 ho6 ho7 ho4' ho5' xA xC xD xA7 xC7 xD7 xS hrs HcA HcC HcD HA1 hLa hLc hHeld
  go_wp2_with fail
  go_loopw [57] (fun i wz => ∃ j : Nat, j ≤ La ∧ i = .int .i64 j ∧ Chg (fun q => aoa = some ⟨q, 0, none⟩) w7 wz ∧ Open8 wz aoa La)
    (fun i _ => La - (intOf i).toNat)
  case atStart => exact ⟨0, Nat.zero_le _, rfl, Chg.refl _ _, hA7⟩
  case round =>
    obtain ⟨j, hj, rfl, hCz, hcz⟩ := hrel
    by_cases hjl : j < La
    · obtain ⟨g, m, hg, hc, hf⟩ := hcz j hjl
      subst hg
      have HZ := Lib.hid hcz
      have hjl' : (j : Int) < (La : Int) := by omega
      clear hcz
      go_wp2
      go_roundw
      case rel => exact ⟨j + 1, by omega, by go_num, hCz.setCell (p := ⟨g, j, none⟩) (.inl rfl) _, HZ.out.set hjl⟩
      case measure => first | (simp [intOf]; done) | (simp [intOf]; omega)
    · obtain rfl : La = j := by omega
      obtain ⟨w8, rfl⟩ : ∃ w8, w8 = wr := ⟨_, rfl⟩
      have hC8o : Open8 w8 aoc Lc := hC7o.chg hCz (fun g e e2 => by have := bA g e2; have := bC g e; omega)
      have hCzA := Lib.hid hCz
      clear hcz hA7 hC7o hCz
      go_wp2_with fail
      go_loopw [69] (fun i wz => ∃ j : Nat, j ≤ Lc ∧ i = .int .i64 j ∧ Chg (fun q => aoc = some ⟨q, 0, none⟩) w8 wz ∧ Open8 wz aoc Lc)
        (fun i _ => Lc - (intOf i).toNat)
      case atStart => exact ⟨0, Nat.zero_le _, rfl, Chg.refl _ _, hC8o⟩
      case round =>
        obtain ⟨j, hj, rfl, hCz, hcz⟩ := hrel
        by_cases hjl : j < Lc
        · obtain ⟨g, m, hg, hc, hf⟩ := hcz j hjl
          subst hg
          have HZ := Lib.hid hcz
          have hjl' : (j : Int) < (Lc : Int) := by omega
          clear hcz
          go_wp2
          go_roundw
          case rel => exact ⟨j + 1, by omega, by go_num, hCz.setCell (p := ⟨g, j, none⟩) (.inl rfl) _, HZ.out.set hjl⟩
          case measure => first | (simp [intOf]; done) | (simp [intOf]; omega)
        · obtain rfl : Lc = j := by omega
          obtain ⟨w9, rfl⟩ : ∃ w9, w9 = wr := ⟨_, rfl⟩
          have hCw : Chg (fun _ => False) w3 w9 := (hC37.trans hCzA.out (T := fun _ => False) (fun _ _ h => h) (fun i hi e => by have := bA i e; omega)).trans hCz (fun _ _ h => h) (fun i hi e => by have := bC i e; omega)
          obtain ⟨SO, hO1, hO2, _⟩ := str_name (xs ++ [7])
          obtain ⟨SB, hB1, hB2, _⟩ := str_name xs
          have hk1 := run_convert_sl (P := Try.prog) 22 9 5 Try.underlying22 Try.underlying5 Try.underlying9 (HO.out.fr hCw)
          have hk2 := run_convert_sl (P := Try.prog) 22 9 5 Try.underlying22 Try.underlying5 Try.underlying9 (HS.out.fr (hC3.tr hCw))
          rw [hO1] at hk1
          rw [hB1] at hk2
          have hsb : SB.size = n := by rw [← hB1, ← HM.out]; exact List.size_toArray ..
          have hcat : (SB ++ (⟨#[7]⟩ : ByteArray)) = SO := by rw [← hO1, ← hB1]; apply ByteArray.ext; simp
          have HCAT := Lib.hid hcat
          have hend := hC3.tr hCw
          clear hcz hC8o hCz bA bC hCzA hO1 hB1 hO2 hB2 hcat
          go_wp2
          go_ret
          refine ⟨?_, hend⟩
          show Ending.returned (Value.bool (SO.toList == (SB ++ (⟨#[7]⟩ : ByteArray)).toList)) = _
          rw [HCAT.out]
          simp

theorem crcSeals_walk (va : Value) (xs : List UInt8) (W : World) (hS : Sl W va (xs.map B)) : Calls Try.prog 5 #[va] W (True_ W) := by
  obtain ⟨ao, c, rfl, _⟩ := hS.form
  rw [List.length_map] at hS
  rw [List.length_map]
  by_cases h1 : (10000 : Int) < xs.length
  · exact crcSeals_big _ c ao W h1
  · exact crcSeals_main ao c _ xs W rfl hS h1
end Go.Proofs.Ytkckniipingkiaa
