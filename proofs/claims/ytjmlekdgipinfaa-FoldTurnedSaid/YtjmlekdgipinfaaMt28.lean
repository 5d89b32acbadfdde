/- scalar.Mixed and Together. -/
import Derived.Test.YtjmlekdgipinfaaMt27
import Derived.Test.YtjmlekdgipinfaaMt5
namespace Go.Proofs.Ytjmlekdgipinfaa
open Go.RowKit Go.Shelf

/-- What a function makes of two elements of kinds. -/
def mixP (f a b x y : Int) : Int × Int := if a = b then twoP f x y else (flagI (decide (f = 10)), 0)
/-- A value that is a function of two numbers. -/
def Fn2 (w : World) (v : Value) (p : Int → Int → Int × Int) : Prop := ∃ gf lb, v = .func (.func gf) #[] lb ∧ (∀ args w, (callFunc gf args).run Try.prog w = .ok (.enter gf args) w) ∧ ∀ x y, In x → In y → ∀ w', Chg (fun _ => False) w w' → Calls Try.prog gf (#[.int .i64 x, .int .i64 y] ++ lb) w' (GaveP w' (p x y).1 (p x y).2)
theorem Fn2.fr {w w' : World} {v : Value} {p : Int → Int → Int × Int} (h : Fn2 w v p) (hC : Chg (fun _ => False) w w') : Fn2 w' v p := by
  obtain ⟨gf, lb, e, h1, h2⟩ := h
  exact ⟨gf, lb, e, h1, fun x y hx hy w2 h => h2 x y hx hy w2 (hC.tr h)⟩
def GaveFn (w : World) (n : Int) (p : Int → Int → Int × Int) (e : Ending) (w' : World) : Prop := ∃ v', e = .returned (.tuple #[v', .int .i64 n]) ∧ (n = 0 → Fn2 w' v' p) ∧ (n ≠ 0 → v' = .nilFunc) ∧ Chg (fun _ => False) w w'
theorem mixed1_any (bx : Nat) (f x y : Int) (w : World) (x0 : w.cell? ⟨bx, 0, none⟩ = some (.int .i64 f)) : Calls Try.prog 50 (#[.int .i64 x, .int .i64 y] ++ #[.pointer (some ⟨bx, 0, none⟩)]) w (GaveP w (flagI (decide (f = 10))) 0) := by
  obtain ⟨b, hb⟩ : ∃ b, decide (f = 10) = b := ⟨_, rfl⟩
  have hb2 : (f == 10) = b := by rw [← hb]; rfl
  have ht := truth_any b
  rw [hb]
  clear hb
  go_enter Try.func50, Try.ntmps50
  go_wp2_with fail
  refine (ht _).mono ?_
  rintro e w' ⟨rfl, hC⟩
  go_wp2
  go_ret2
  exact ⟨rfl, hC⟩
theorem mixed2_any (bx : Nat) (f x y : Int) (w : World) (hx : In x) (hy : In y) (x0 : w.cell? ⟨bx, 0, none⟩ = some (.int .i64 f)) : Calls Try.prog 52 (#[.int .i64 x, .int .i64 y] ++ #[.pointer (some ⟨bx, 0, none⟩)]) w (GaveP w (twoP f x y).1 (twoP f x y).2) := by
  have ht := two_any f x y hx hy
  generalize (twoP f x y).1 = n at *
  generalize (twoP f x y).2 = m at *
  clear hx hy
  go_enter Try.func52, Try.ntmps52
  go_wp2_with fail
  refine (ht _).mono ?_
  rintro e w' ⟨rfl, hC⟩
  go_wp2
  go_ret2
  exact ⟨rfl, hC⟩
set_option maxHeartbeats 400000 in
theorem mixed_any (f a b : Int) (w : World) : Calls Try.prog 15 #[.int .i64 f, .int .i64 a, .int .i64 b] w (GaveFn w (knE f a b) (mixP f a b)) := by
  have hk := kinds_any f a b (w.alloc (.cells #[.int .i64 f] 3))
  have hC0 := (Chg.refl (fun _ => False) w).alloc (.cells #[.int .i64 f] 3)
  have x0 := new_cell w #[.int .i64 f] 3 (i := 0) rfl
  unfold SaidI at hk
  obtain ⟨n, hn⟩ : ∃ n, knE f a b = n := ⟨_, rfl⟩
  rw [hn] at hk ⊢
  clear hn
  by_cases h0 : n = 0
  · subst h0
    by_cases hab : a = b
    · subst hab
      have HF := Lib.hid (show Fn2 (w.alloc (.cells #[.int .i64 f] 3)) (.func (.func 52) #[] #[.pointer (some ⟨w.heap.size, 0, none⟩)]) (mixP f a a) from ⟨_, _, rfl, enters_of Try.func52 (by kernel_rfl) rfl, fun x y hx hy w' h => by
        unfold mixP
        rw [if_pos rfl]
        exact mixed2_any _ f x y w' hx hy (h.cell x0 id)⟩)
      go_enter Try.func15, Try.ntmps15
      go_wp2_with fail
      refine hk.mono ?_
      clear hk
      rintro e w' ⟨rfl, rfl⟩
      go_wp2
      go_ret2
      exact ⟨_, rfl, fun _ => HF.out, fun h => absurd rfl h, hC0⟩
    · have HF := Lib.hid (show Fn2 (w.alloc (.cells #[.int .i64 f] 3)) (.func (.func 50) #[] #[.pointer (some ⟨w.heap.size, 0, none⟩)]) (mixP f a b) from ⟨_, _, rfl, enters_of Try.func50 (by kernel_rfl) rfl, fun x y hx hy w' h => by
        unfold mixP
        rw [if_neg hab]
        exact mixed1_any _ f x y w' (h.cell x0 id)⟩)
      have hb : (a != b) = true := bne_iff_ne.2 hab
      clear hab
      go_enter Try.func15, Try.ntmps15
      go_wp2_with fail
      refine hk.mono ?_
      clear hk
      rintro e w' ⟨rfl, rfl⟩
      go_wp2
      go_ret2
      exact ⟨_, rfl, fun _ => HF.out, fun h => absurd rfl h, hC0⟩
  · have hb : (n != 0) = true := bne_iff_ne.2 h0
    have H0 := Lib.hid h0
    clear h0
    go_enter Try.func15, Try.ntmps15
    go_wp2_with fail
    refine hk.mono ?_
    clear hk
    rintro e w' ⟨rfl, rfl⟩
    go_wp2
    go_ret2
    exact ⟨_, rfl, fun h => absurd h H0.out, fun _ => rfl, hC0⟩
/-- The shape that comes of two, or the error. -/
def togE (a b : List Int) : Int := if shB a && shB b then (if a = [] ∨ b = [] ∨ a = b then 0 else if a.length = b.length then 4 else 3) else 110
def togL (a b : List Int) : List Int := if togE a b = 0 then (if a = [] then b else a) else []
def GaveSE (w : World) (xs : List Int) (n : Int) (e : Ending) (w' : World) : Prop := ∃ v', e = .returned (.tuple #[v', .int .i64 n]) ∧ Own w' w.heap.size 3 v' xs ∧ Chg (fun _ => False) w w'
set_option maxHeartbeats 1000000 in
theorem together_any (u v : Value) (a b : List Int) (w : World) (hA : Ls w u a) (hB : Ls w v b) : Calls Try.prog 55 #[u, v] w (GaveSE w (togL a b) (togE a b)) := by
  have hca := count_any _ a _ hA
  have hcb := count_any _ b _ hB
  unfold GaveC at hca hcb
  have hA' := hA
  have hB' := hB
  obtain ⟨aa, ca, rfl, _⟩ := hA.form
  obtain ⟨ab, cb, rfl, _⟩ := hB.form
  cases ha : shB a with
  | false =>
    have HR := Lib.hid (show togL a b = [] ∧ togE a b = 110 by
      have h : togE a b = 110 := by unfold togE; rw [ha]; rfl
      exact ⟨by unfold togL; rw [h]; rfl, h⟩)
    rw [cntN_not ha, cntE_not ha] at hca
    generalize cntN b = N at *
    generalize cntE b = E at *
    clear hA hB hA' hB' ha
    go_enter Try.func55, Try.ntmps55
    go_wp2_with fail
    refine hca.mono ?_
    clear hca
    rintro e9 w3 ⟨rfl, rfl⟩
    go_wp2_with fail
    refine hcb.mono ?_
    clear hcb
    rintro e9 w3 ⟨rfl, rfl⟩
    go_wp2
    go_ret2
    rw [HR.out.1, HR.out.2]
    exact ⟨_, rfl, Own.nil _ _ _, Chg.refl _ _⟩
  | true =>
    rw [cntE_ok ha] at hca
    generalize cntN a = N1 at *
    cases hb : shB b with
    | false =>
      have HR := Lib.hid (show togL a b = [] ∧ togE a b = 110 by
        have h : togE a b = 110 := by unfold togE; rw [ha, hb]; rfl
        exact ⟨by unfold togL; rw [h]; rfl, h⟩)
      rw [cntN_not hb, cntE_not hb] at hcb
      clear hA hB hA' hB' ha hb
      go_enter Try.func55, Try.ntmps55
      go_wp2_with fail
      refine hca.mono ?_
      clear hca
      rintro e9 w3 ⟨rfl, rfl⟩
      go_wp2_with fail
      refine hcb.mono ?_
      clear hcb
      rintro e9 w3 ⟨rfl, rfl⟩
      go_wp2
      go_ret2
      rw [HR.out.1, HR.out.2]
      exact ⟨_, rfl, Own.nil _ _ _, Chg.refl _ _⟩
    | true =>
      rw [cntE_ok hb] at hcb
      generalize cntN b = N2 at *
      have hal := (shB_iff.1 ha).1
      have hbl := (shB_iff.1 hb).1
      have hE : togE a b = if a = [] ∨ b = [] ∨ a = b then 0 else if a.length = b.length then 4 else 3 := by unfold togE; rw [ha, hb]; rfl
      by_cases ha0 : a = []
      · have HR := Lib.hid (show togL a b = b ∧ togE a b = 0 by
          have h : togE a b = 0 := by rw [hE, if_pos (.inl ha0)]
          exact ⟨by unfold togL; rw [if_pos h, if_pos ha0], h⟩)
        have e0 : ((a.length : Int) == 0) = true := by rw [ha0]; rfl
        have hcl := cloneI_any _ b w hB' (by omega)
        clear hA hB hA' hB' ha hb hE ha0
        go_enter Try.func55, Try.ntmps55
        go_wp2_with fail
        refine hca.mono ?_
        clear hca
        rintro e9 w3 ⟨rfl, rfl⟩
        go_wp2_with fail
        refine hcb.mono ?_
        clear hcb
        rintro e9 w3 ⟨rfl, rfl⟩
        go_wp2_with fail
        refine hcl.mono ?_
        clear hcl
        rintro e9 w4 ⟨v4, rfl, ho, hC⟩
        go_wp2
        go_ret2
        rw [HR.out.1, HR.out.2]
        exact ⟨_, rfl, ho, hC⟩
      · have e0 : ((a.length : Int) == 0) = false := by rw [beq_eq_false_iff_ne]; have := List.length_pos_iff.2 ha0; omega
        have hcl := cloneI_any _ a w hA' (by omega)
        by_cases hb0 : b = []
        · have HR := Lib.hid (show togL a b = a ∧ togE a b = 0 by
            have h : togE a b = 0 := by rw [hE, if_pos (.inr (.inl hb0))]
            exact ⟨by unfold togL; rw [if_pos h, if_neg ha0], h⟩)
          have e1 : ((b.length : Int) == 0) = true := by rw [hb0]; rfl
          clear hA hB hA' hB' ha hb hE ha0 hb0
          go_enter Try.func55, Try.ntmps55
          go_wp2_with fail
          refine hca.mono ?_
          clear hca
          rintro e9 w3 ⟨rfl, rfl⟩
          go_wp2_with fail
          refine hcb.mono ?_
          clear hcb
          rintro e9 w3 ⟨rfl, rfl⟩
          go_wp2_with fail
          refine hcl.mono ?_
          clear hcl
          rintro e9 w4 ⟨v4, rfl, ho, hC⟩
          go_wp2
          go_ret2
          rw [HR.out.1, HR.out.2]
          exact ⟨_, rfl, ho, hC⟩
        · have e1 : ((b.length : Int) == 0) = false := by rw [beq_eq_false_iff_ne]; have := List.length_pos_iff.2 hb0; omega
          by_cases hl : a.length = b.length
          · have e2 : ((a.length : Int) != (b.length : Int)) = false := by rw [bne_eq_false_iff_eq]; omega
            have heq := equalI_any _ _ a b w hA' hB' (by omega)
            have hclw := fun w' (h : Chg (fun _ => False) w w') => cloneI_any _ a w' (hA'.fr h) (by omega)
            by_cases hab : a = b
            · have HR := Lib.hid (show togL a b = a ∧ togE a b = 0 by
                have h : togE a b = 0 := by rw [hE, if_pos (.inr (.inr hab))]
                exact ⟨by unfold togL; rw [if_pos h, if_neg ha0], h⟩)
              rw [decide_eq_true hab] at heq
              clear hA hB hA' hB' ha hb hE ha0 hb0 hl hab hcl
              go_enter Try.func55, Try.ntmps55
              go_wp2_with fail
              refine hca.mono ?_
              clear hca
              rintro e9 w3 ⟨rfl, rfl⟩
              go_wp2_with fail
              refine hcb.mono ?_
              clear hcb
              rintro e9 w3 ⟨rfl, rfl⟩
              go_wp2_with fail
              refine heq.mono ?_
              clear heq
              rintro e9 w4 ⟨rfl, hC4⟩
              have hcl := hclw _ hC4
              clear hclw
              go_wp2_with fail
              refine hcl.mono ?_
              clear hcl
              rintro e9 w5 ⟨v4, rfl, ho, hC⟩
              go_wp2
              go_ret2
              rw [HR.out.1, HR.out.2]
              exact ⟨_, rfl, ho.mono hC4.size, hC4.tr hC⟩
            · have HR := Lib.hid (show togL a b = [] ∧ togE a b = 4 by
                have h : togE a b = 4 := by rw [hE, if_neg (by simp [ha0, hb0, hab]), if_pos hl]
                exact ⟨by unfold togL; rw [h]; rfl, h⟩)
              rw [decide_eq_false hab] at heq
              clear hA hB hA' hB' ha hb hE ha0 hb0 hl hab hcl hclw
              go_enter Try.func55, Try.ntmps55
              go_wp2_with fail
              refine hca.mono ?_
              clear hca
              rintro e9 w3 ⟨rfl, rfl⟩
              go_wp2_with fail
              refine hcb.mono ?_
              clear hcb
              rintro e9 w3 ⟨rfl, rfl⟩
              go_wp2_with fail
              refine heq.mono ?_
              clear heq
              rintro e9 w4 ⟨rfl, hC4⟩
              go_wp2
              go_ret2
              rw [HR.out.1, HR.out.2]
              exact ⟨_, rfl, Own.nil _ _ _, hC4⟩
          · have e2 : ((a.length : Int) != (b.length : Int)) = true := by simp only [bne_iff_ne, ne_eq]; omega
            have HR := Lib.hid (show togL a b = [] ∧ togE a b = 3 by
              have h : togE a b = 3 := by rw [hE, if_neg (by
                rintro (h | h | h)
                · exact ha0 h
                · exact hb0 h
                · exact hl (by rw [h])), if_neg hl]
              exact ⟨by unfold togL; rw [h]; rfl, h⟩)
            clear hA hB hA' hB' ha hb hE ha0 hb0 hl hcl
            go_enter Try.func55, Try.ntmps55
            go_wp2_with fail
            refine hca.mono ?_
            clear hca
            rintro e9 w3 ⟨rfl, rfl⟩
            go_wp2_with fail
            refine hcb.mono ?_
            clear hcb
            rintro e9 w3 ⟨rfl, rfl⟩
            go_wp2
            go_ret2
            rw [HR.out.1, HR.out.2]
            exact ⟨_, rfl, Own.nil _ _ _, Chg.refl _ _⟩
end Go.Proofs.Ytjmlekdgipinfaa
