/- fold: a row, folded. -/
import Derived.Test.YtjmlekdgipinfaaMt32
namespace Go.Proofs.Ytjmlekdgipinfaa
open Go.RowKit Go.Shelf
attribute [local go_sem] Oper.semAt_some

theorem back_any (ao : Option Addr) (n c : Nat) (w : World) : Calls Try.prog 60 #[.slice ao n c] w (fun e w' => e = .returned (.func (.func 100) #[] #[.pointer (some ⟨w.heap.size, 0, none⟩)]) ∧ w' = w.alloc (.cells #[.slice ao n c] 23)) := by
  go_enter Try.func60, Try.ntmps60
  go_wp2
  go_ret
  exact ⟨rfl, rfl⟩
theorem row_leave {w W : World} {D : Nat} {a b : Int} {t : Array Value} (hK : W.heap[D]? = some (.deferred (some []))) (hD : w.heap.size ≤ D) (h4 : t[4]?.getD undef = .int .i64 a) (h5 : t[5]?.getD undef = .int .i64 b) (hC : Chg (fun _ => False) w W) :
    bodyPostM Fence.wide 8 Try.prog Try.f22 (GaveP w a b) .ret { tmps := t, defers := [{ target := .collected D, args := #[] }] } W := by
  refine leave_mark (v := .tuple #[.int .i64 a, .int .i64 b]) hK ?_ ⟨rfl, hC.putObj (.inr hD) _⟩
  simp [results, Try.f22, go_sem, h4, h5]
/-- A row's rounds: b6 the number, b7 the error. -/
def ColF (b6 b7 : Nat) (f : Int) (n : Nat) (w1 : World) (pre : List (Nat × Int)) (W : World) : Prop := (bkR f n pre).2 = 0 ∧ In (bkR f n pre).1 ∧ W.cell? ⟨b6, 0, none⟩ = some (.int .i64 (bkR f n pre).1) ∧ W.frozen? ⟨b6, 0, none⟩ = false ∧ W.cell? ⟨b7, 0, none⟩ = some (.int .i64 0) ∧ W.frozen? ⟨b7, 0, none⟩ = false ∧ Chg (fun q => q = b6 ∨ q = b7) w1 W
def StpF (b6 b7 : Nat) (f : Int) (n : Nat) (w1 : World) (c : Code) (pre : List (Nat × Int)) (W : World) : Prop := c = .exit 0 ∧ (bkR f n pre).2 ≠ 0 ∧ W.cell? ⟨b7, 0, none⟩ = some (.int .i64 (bkR f n pre).2) ∧ Chg (fun q => q = b6 ∨ q = b7) w1 W
theorem ColF.own (b6 b7 : Nat) (f : Int) (n : Nat) (w1 : World) (N : Nat) (h1 : w1.heap.size ≤ N) : OwnFrom N (ColF b6 b7 f n w1) := by
  rintro pre A C row ⟨h0, hI, c6, f6, c7, f7, hC⟩ hg hr
  have hk := fun {q : Addr} {u : Value} (h : A.cell? q = some u) => cell_kept h hg (fun r e => (hr r e).2)
  exact ⟨h0, hI, hk c6, (frozen_kept c6 hg (fun r e => (hr r e).2)).trans f6, hk c7, (frozen_kept c7 hg (fun r e => (hr r e).2)).trans f7, hC.grown hg (fun k e => .inr (Nat.le_trans h1 (hr k e).1))⟩
theorem StpF.own (b6 b7 : Nat) (f : Int) (n : Nat) (w1 : World) (c : Code) (N : Nat) (h1 : w1.heap.size ≤ N) : OwnFrom N (StpF b6 b7 f n w1 c) := by
  rintro pre A C row ⟨h0, h2, d0, hC⟩ hg hr
  exact ⟨h0, h2, cell_kept d0 hg (fun r e => (hr r e).2), hC.grown hg (fun k e => .inr (Nat.le_trans h1 (hr k e).1))⟩
theorem ColF.abides (b6 b7 : Nat) (f : Int) (n : Nat) (w1 : World) : AbidesT (fun _ => False) (ColF b6 b7 f n w1) := by
  rintro pre A C ⟨h0, hI, c6, f6, c7, f7, hC⟩ hD
  exact ⟨h0, hI, hD.cell c6 id, hD.frozen c6 f6 id, hD.cell c7 id, hD.frozen c7 f7 id, hC.trans hD (fun _ _ h => h) (fun _ _ h => h.elim)⟩
theorem StpF.abides (b6 b7 : Nat) (f : Int) (n : Nat) (w1 : World) (c : Code) : AbidesT (fun _ => False) (StpF b6 b7 f n w1 c) := by
  rintro pre A C ⟨h0, h2, d0, hC⟩ hD
  exact ⟨h0, h2, hD.cell d0 id, hC.trans hD (fun _ _ h => h) (fun _ _ h => h.elim)⟩
theorem back_seq (b1 b6 b7 n c : Nat) (ao : Option Addr) (xs : List Int) (hn : xs.length = n) (hn2 : n ≤ 1000000) (Ok : Nat × Int → Prop) (hOk : ∀ t, t < n → Ok (bkA xs t)) (w00 w : World) (h00 : Chg (fun _ => False) w00 w) (h6 : w00.heap.size ≤ b6) (h7 : w00.heap.size ≤ b7)
    (hb : b6 < b1 ∧ b7 < b1) (h1 : w.cell? ⟨b1, 0, none⟩ = some (.slice ao n c)) (hs : Ls w00 (.slice ao n c) xs) :
    SeqKp Try.prog 100 #[.pointer (some ⟨b1, 0, none⟩)] encB (fun q => q < w.heap.size ∧ q ≠ b6 ∧ q ≠ b7) (fun _ => False) Ok (fun ys => ys = bkL xs) (fun pre => ∃ q, q < n ∧ pre = (bkL xs).take (q + 1)) n w := fun l J Jx W hW hJ _ hJx hY h0 =>
  back1_in l b1 n c ao xs hn hn2 (fun q => q < w.heap.size ∧ q ≠ b6 ∧ q ≠ b7) Ok hOk J Jx hY w00 w (fun q hq => ⟨by have := h00.size; omega, by omega, by omega⟩) ⟨cell_lt h1, by omega, by omega⟩ h00 h1 hs W (fun q hq => hW.block q hq.1) h0
set_option maxRecDepth 100000 in
set_option maxHeartbeats 4000000 in
theorem row_any (f : Int) (v : Value) (xs : List Int) (w : World) (hS : Ls w v xs) (hn2 : xs.length ≤ 1000000) (hI : ∀ x ∈ xs, In x) : Calls Try.prog 22 #[.int .i64 f, v] w (GaveP w (rwP f xs).1 (rwP f xs).2) := by
  obtain ⟨ao, c, rfl, _⟩ := hS.form
  have hid := ident_any f
  have z2 : (w.alloc (.cells #[.int .i64 f] 3)).heap.size = w.heap.size + 1 := World.size_alloc _ _
  have b2 := alloc_cell (new_cell w #[.int .i64 f] 3 (i := 0) (v := .int .i64 f) rfl) (.cells #[.slice ao xs.length c] 23)
  have b3 := new_cell (w.alloc (.cells #[.int .i64 f] 3)) #[.slice ao xs.length c] 23 (i := 0) (v := .slice ao xs.length c) rfl
  rw [z2] at b3
  have hC2 := ((Chg.refl (fun _ => False) w).alloc (.cells #[.int .i64 f] 3)).alloc (.cells #[.slice ao xs.length c] 23)
  have hs2 : w.heap.size + 2 ≤ ((w.alloc (.cells #[.int .i64 f] 3)).alloc (.cells #[.slice ao xs.length c] 23)).heap.size := by rw [World.size_alloc, World.size_alloc]; omega
  cases hb : binB f with
  | false =>
    rw [show idP f = (0, 2) by unfold idP; rw [hb]; rfl] at hid
    rw [show rwP f xs = (0, 2) by unfold rwP; rw [hb]; rfl]
    clear hb hS hI b3 z2 hs2
    (refine calls_of_wp_marks Try.func22 rfl ?_; simp only [Try.ntmps22, List.size_toArray, List.length_cons, List.length_nil, Nat.reduceAdd, Nat.reduceSub, Array.replicate_succ, Array.replicate_zero, List.push_toArray, List.append_toArray, List.nil_append, List.cons_append])
    go_wp2_with fail
    go_step3
    go_wp2_with (go_at_call 23; refine (hid _).mono ?_; clear hid; rintro e9 w3 ⟨rfl, hC3⟩)
    have HC := Lib.hid (hC2.tr hC3)
    clear hC2 hC3
    go_region
    all_goals
      go_wp2
      refine leave_plain (v := .tuple #[.int .i64 0, .int .i64 2]) ?_ ⟨rfl, ((HC.out.alloc _).alloc _).drew⟩
      simp [results, Try.f22, go_sem]
  | true =>
    rw [show idP f = (idV f, 0) by unfold idP; rw [hb]; rfl] at hid
    rw [show rwP f xs = rowP f xs by unfold rwP; rw [hb]; rfl]
    have hbw := bk_whole f xs
    have hsp : ∀ t, t < xs.length → (bkR f xs.length ((bkL xs).take (t + 1))).2 ≠ 0 → (rowP f xs).2 = (bkR f xs.length ((bkL xs).take (t + 1))).2 := fun t _ hne => by
      rw [← hbw.1, ← List.take_append_drop (t + 1) (bkL xs), bkR_stick f _ _ _ hne]
      rw [List.take_append_drop]
    obtain ⟨n, hn⟩ : ∃ n, xs.length = n := ⟨_, rfl⟩
    rw [hn] at hn2 b2 b3 hC2 hS hbw hsp hs2 ⊢
    have HB := Lib.hid hbw
    have HSP := Lib.hid hsp
    have HN := Lib.hid hn
    have HS := Lib.hid hS
    have HI := Lib.hid hI
    clear hb hbw hsp hn hS hI z2
    (refine calls_of_wp_marks Try.func22 rfl ?_; simp only [Try.ntmps22, List.size_toArray, List.length_cons, List.length_nil, Nat.reduceAdd, Nat.reduceSub, Array.replicate_succ, Array.replicate_zero, List.push_toArray, List.append_toArray, List.nil_append, List.cons_append])
    go_wp2_with fail
    go_step3
    go_wp2_with (go_at_call 23; refine (hid _).mono ?_; clear hid; rintro e9 w3 ⟨rfl, hC3⟩)
    replace b2 := hC3.cell b2 id
    replace b3 := hC3.cell b3 id
    have hs3 : w.heap.size + 2 ≤ w3.heap.size := by have := hC3.size; omega
    have HC3 := Lib.hid (hC2.tr hC3)
    clear hC3 hC2 hs2
    obtain ⟨v4, hv4⟩ : ∃ v, w3.alloc (.cells #[.int .i64 (idV f)] 2) = v := ⟨_, rfl⟩
    obtain ⟨v5, hv5⟩ : ∃ v, v4.alloc (.cells #[.int .i64 0] 28) = v := ⟨_, rfl⟩
    obtain ⟨v6, hv6⟩ : ∃ v, v5.alloc (.cells #[.slice ao n c] 23) = v := ⟨_, rfl⟩
    rw [hv4, hv5]
    have z4 : v4.heap.size = w3.heap.size + 1 := by rw [← hv4, World.size_alloc]
    have z5 : v5.heap.size = w3.heap.size + 2 := by rw [← hv5, World.size_alloc, z4]
    have z6 : v6.heap.size = w3.heap.size + 3 := by rw [← hv6, World.size_alloc, z5]
    have g4 : Chg (fun _ => False) w3 v4 := by rw [← hv4]; exact (Chg.refl _ _).alloc _
    have g5 : Chg (fun _ => False) v4 v5 := by rw [← hv5]; exact (Chg.refl _ _).alloc _
    have g6 : Chg (fun _ => False) v5 v6 := by rw [← hv6]; exact (Chg.refl _ _).alloc _
    have c6 := new_cell w3 #[.int .i64 (idV f)] 2 (i := 0) (v := .int .i64 (idV f)) rfl
    have f6 := new_frozen w3 #[.int .i64 (idV f)] 2 0
    have c7 := new_cell v4 #[.int .i64 0] 28 (i := 0) (v := .int .i64 0) rfl
    have f7 := new_frozen v4 #[.int .i64 0] 28 0
    have c1 := new_cell v5 #[.slice ao n c] 23 (i := 0) (v := .slice ao n c) rfl
    rw [hv4] at c6 f6
    rw [hv5, z4] at c7 f7
    rw [hv6, z5] at c1
    replace f6 := (g5.tr g6).frozen c6 f6 id
    replace c6 := (g5.tr g6).cell c6 id
    replace f7 := g6.frozen c7 f7 id
    replace c7 := g6.cell c7 id
    have b3' := (g4.tr g5).cell b3 id
    replace b2 := (g4.tr (g5.tr g6)).cell b2 id
    replace b3 := (g4.tr (g5.tr g6)).cell b3 id
    have hC06 := HC3.out.tr (g4.tr (g5.tr g6))
    have hba := back_any ao n c v5
    rw [hv6, z5] at hba
    clear g4 g5 g6 hv4 hv5 hv6 z4 z5
    go_step3
    go_wp2_with (go_at_call 60; refine hba.mono ?_; clear hba; rintro e9 w7 ⟨rfl, rfl⟩)
    clear b3'
    have hsq := back_seq (w3.heap.size + 2) w3.heap.size (w3.heap.size + 1) n c ao xs HN.out hn2 (fun x => In x.2) (fun t ht => by
      unfold bkA
      have hl : xs.length - 1 - t < xs.length := by have := HN.out; omega
      simp only [List.getD, List.getElem?_eq_getElem hl, Option.getD_some]
      exact HI.out _ (List.getElem_mem _)) w w7 hC06 (by omega) (by omega) (by omega) c1 HS.out
    have HSQ := Lib.hid hsq
    have HC6 := Lib.hid hC06
    have HZ6 := Lib.hid z6
    have HS3 := Lib.hid hs3
    clear hsq hC06 z6 hs3 c1
    refine wp_rangeKp (gf := 100) (lb := #[.pointer (some ⟨w3.heap.size + 2, 0, none⟩)]) rfl (enters_of Try.func100 (by kernel_rfl) rfl)
      (fun q h => h.elim) (fun q h => h.1) HSQ.out (fun _ => rfl)
      (ColF w3.heap.size (w3.heap.size + 1) f n w7) (StpF w3.heap.size (w3.heap.size + 1) f n w7)
      (ColF.own _ _ _ _ _ _ (Nat.le_refl _)) (fun c => StpF.own _ _ _ _ _ c _ (Nat.le_refl _)) (ColF.abides _ _ _ _ _) (fun c => StpF.abides _ _ _ _ _ c)
      (fun c pre W h k hk => h.2.2.2.block k hk.1 (fun e => e.elim hk.2.1 hk.2.2)) ⟨rfl, (show In (idV f) from row_In (f := f) (l := []) (fun _ h => by cases h)), c6, f6, c7, f7, Chg.refl _ _⟩ ?a1
      (fun _ W => W) (fun _ W => ⟨rfl, rfl, rfl, Nat.le_refl _, fun _ _ _ => rfl⟩)
      (fun _ _ => True) (fun _ _ _ _ _ _ _ => trivial) (fun _ _ _ _ => trivial) ?assign ?body ?done ?stop
    case assign =>
      intro l x W K hK
      simp only [encB]
      gi_wp2
      generalize W.heap.size = m at hK ⊢
      exact hK
    case body =>
      rintro l pre ⟨i, y⟩ m W hy ⟨h0, hIn, c6, f6, c7, f7, hC⟩ _ hm hlen
      simp only at hy
      have n2 : ¬ (w.heap.size = w3.heap.size ∨ w.heap.size = w3.heap.size + 1) := by have := HS3.out; omega
      have n3 : ¬ (w.heap.size + 1 = w3.heap.size ∨ w.heap.size + 1 = w3.heap.size + 1) := by have := HS3.out; omega
      replace b2 := hC.cell b2 n2
      replace b3 := hC.cell b3 n3
      have k1 : IntKind.i64.wrap ((n : Int) - 1) = (n : Int) - 1 := IntWalk.i64_in _ (by omega)
      have HR := Lib.hid (bkR_snoc f n pre (i, y))
      have H0 := Lib.hid h0
      have HC := Lib.hid hC
      have HIN := Lib.hid (And.intro hIn hy)
      generalize bkR f n pre = q at *
      obtain ⟨qv, qe⟩ := q
      simp only at c6 h0 hIn
      subst h0
      have hb6 : w3.heap.size < W.heap.size := cell_lt c6
      have hb7 : w3.heap.size + 1 < W.heap.size := cell_lt c7
      clear hC n2 n3 hm hIn
      by_cases hi : i + 1 = n
      · have d1 : ((i : Int) == (n : Int) - 1) = true := by rw [beq_iff_eq]; omega
        have HX := Lib.hid (show bkR f n (pre ++ [(i, y)]) = (y, 0) by rw [HR.out]; unfold stpB; rw [if_pos rfl, if_pos hi])
        clear hi
        gi_wp2
        have hX : Chg (fun q => q = w3.heap.size) W (W.setCell ⟨w3.heap.size, 0, none⟩ (.int .i64 y)) := chg_cell W _ 0 _
        have hcf : ColF w3.heap.size (w3.heap.size + 1) f n w7 (pre ++ [(i, y)]) (W.setCell ⟨w3.heap.size, 0, none⟩ (.int .i64 y)) := by
          unfold ColF
          rw [HX.out]
          exact ⟨rfl, HIN.out.2, World.cell?_setCell_same' _ _ _ (by rw [c6]; rfl), by rw [World.frozen?_setCell]; exact f6, (World.cell?_setCell_other _ _ _ _ (by simp)).trans c7, by rw [World.frozen?_setCell]; exact f7, HC.out.trans hX (fun _ _ h => h) (fun i hi h => .inl h)⟩
        exact ⟨(KeepsOthers.setCell _ _ _).from _, Keep.of_chg hX (fun q hq => ⟨by have := HC.out.size; omega, hq.2.1⟩), hcf⟩
      · have d1 : ((i : Int) == (n : Int) - 1) = false := by rw [beq_eq_false_iff_ne]; omega
        have HX := Lib.hid (show bkR f n (pre ++ [(i, y)]) = twoP f y qv by rw [HR.out]; unfold stpB; rw [if_pos rfl, if_neg hi])
        have htw := two_any f y qv hy HIN.out.1 W
        have HT := Lib.hid (show In (twoP f y qv).1 from two_In hy HIN.out.1)
        generalize twoP f y qv = tq at *
        obtain ⟨tv, te⟩ := tq
        unfold GaveP at htw
        simp only at htw
        clear hi hy
        gi_wp2_with fail
        refine ⟨trivial, CallsIn.inRound l (callsIn_wide.2 (htw.mono ?_))⟩
        clear htw
        rintro e9 W2 ⟨rfl, hC2⟩
        replace f6 := hC2.frozen c6 f6 id
        replace c6 := hC2.cell c6 id
        replace f7 := hC2.frozen c7 f7 id
        replace c7 := hC2.cell c7 id
        have HC2 := Lib.hid hC2
        have hX : ∀ u, Chg (fun q => q = w3.heap.size ∨ q = w3.heap.size + 1) W ((W2.setCell ⟨w3.heap.size, 0, none⟩ (.int .i64 tv)).setCell ⟨w3.heap.size + 1, 0, none⟩ u) := fun u =>
          (Chg.trans hC2 (chg_cell W2 w3.heap.size 0 (.int .i64 tv)) (fun _ _ h => h.elim) (fun _ _ h => h)).trans (chg_cell _ (w3.heap.size + 1) 0 u) (fun _ _ h => .inl h) (fun _ _ h => .inr h)
        have hXW : ∀ u, Chg (fun q => q = w3.heap.size ∨ q = w3.heap.size + 1) w7 ((W2.setCell ⟨w3.heap.size, 0, none⟩ (.int .i64 tv)).setCell ⟨w3.heap.size + 1, 0, none⟩ u) := fun u => HC.out.trans (hX u) (fun _ _ h => h) (fun _ _ h => h)
        have hKO : ∀ u, KeepsOthers W ((W2.setCell ⟨w3.heap.size, 0, none⟩ (.int .i64 tv)).setCell ⟨w3.heap.size + 1, 0, none⟩ u) := fun u => ((⟨hC2.size, fun k _ hk _ => (hC2.block k (Array.getElem?_eq_some_iff.1 hk).1 id).trans hk⟩ : KeepsOthers W W2).trans (KeepsOthers.setCell W2 ⟨w3.heap.size, 0, none⟩ (.int .i64 tv))).trans (KeepsOthers.setCell _ ⟨w3.heap.size + 1, 0, none⟩ u)
        have HXX := Lib.hid (And.intro hX (And.intro hXW hKO))
        clear hX hXW hKO hC2
        by_cases he : te = 0
        · subst he
          gi_wp2
          have hcf : ColF w3.heap.size (w3.heap.size + 1) f n w7 (pre ++ [(i, y)]) ((W2.setCell ⟨w3.heap.size, 0, none⟩ (.int .i64 tv)).setCell ⟨w3.heap.size + 1, 0, none⟩ (.int .i64 0)) := by
            unfold ColF
            rw [HX.out]
            have c7' : (W2.setCell ⟨w3.heap.size, 0, none⟩ (.int .i64 tv)).cell? ⟨w3.heap.size + 1, 0, none⟩ = some (.int .i64 0) := (World.cell?_setCell_other _ _ _ _ (by simp)).trans c7
            exact ⟨rfl, HT.out, (World.cell?_setCell_other _ _ _ _ (by simp)).trans (World.cell?_setCell_same' _ _ _ (by rw [c6]; rfl)), by rw [World.frozen?_setCell, World.frozen?_setCell]; exact f6, World.cell?_setCell_same' _ _ _ (by rw [c7']; rfl), by rw [World.frozen?_setCell, World.frozen?_setCell]; exact f7, HXX.out.2.1 _⟩
          exact ⟨(HXX.out.2.2 _).from _, Keep.of_chg (HXX.out.1 _) (fun q hq => ⟨by have := HC.out.size; omega, fun h => h.elim hq.2.1 hq.2.2⟩), hcf⟩
        · have eb : (te != 0) = true := bne_iff_ne.2 he
          have HE := Lib.hid he
          clear he
          gi_wp2
          have c7' : (W2.setCell ⟨w3.heap.size, 0, none⟩ (.int .i64 tv)).cell? ⟨w3.heap.size + 1, 0, none⟩ = some (.int .i64 0) := (World.cell?_setCell_other _ _ _ _ (by simp)).trans c7
          have hsf : StpF w3.heap.size (w3.heap.size + 1) f n w7 (.exit 0) (pre ++ [(i, y)]) ((W2.setCell ⟨w3.heap.size, 0, none⟩ (.int .i64 tv)).setCell ⟨w3.heap.size + 1, 0, none⟩ (.int .i64 te)) := by
            unfold StpF
            rw [HX.out]
            exact ⟨rfl, HE.out, World.cell?_setCell_same' _ _ _ (by rw [c7']; rfl), HXX.out.2.1 _⟩
          exact ⟨(HXX.out.2.2 _).from _, hsf⟩
    case done =>
      rintro D ys W hD rfl ⟨h0, hIn, c6, f6, c7, f7, hC⟩ hK
      have hCw : Chg (fun _ => False) w W := HC6.out.trans hC (fun _ _ h => h) (fun i hi e => by have := HS3.out; omega)
      have HB1 := Lib.hid (show (rowP f xs).1 = (bkR f n (bkL xs)).1 ∧ (rowP f xs).2 = 0 from ⟨(HB.out.2 h0).symm, HB.out.1.symm.trans h0⟩)
      have HCW := Lib.hid hCw
      have HK := Lib.hid hK
      generalize bkR f n (bkL xs) = q at *
      obtain ⟨qv, qe⟩ := q
      simp only at c6
      have hDw : w.heap.size ≤ D := by have := HC6.out.size; omega
      clear hC hCw hK hIn h0
      go_wp2
      rw [HB1.out.1, HB1.out.2]
      exact row_leave HK.out hDw rfl rfl HCW.out
    case stop =>
      rintro D c' pre W hD ⟨q, hq, rfl⟩ ⟨rfl, hne, c7, hC⟩ hK
      have hCw : Chg (fun _ => False) w W := HC6.out.trans hC (fun _ _ h => h) (fun i hi e => by have := HS3.out; omega)
      have h2 := HSP.out q hq hne
      have h1 : (rowP f xs).1 = 0 := rowP_zero f xs (by rw [h2]; exact hne)
      have HB1 := Lib.hid (And.intro h1 h2)
      generalize (bkR f n ((bkL xs).take (q + 1))).2 = te at *
      have eb : (te != 0) = true := bne_iff_ne.2 hne
      have HCW := Lib.hid hCw
      have HK := Lib.hid hK
      have hDw : w.heap.size ≤ D := by have := HC6.out.size; omega
      clear hC hCw hK hne h1 h2
      go_wp2
      go_region
      all_goals
        go_wp2
        rw [HB1.out.1, HB1.out.2]
        exact row_leave (W := W.drew) HK.out hDw rfl rfl HCW.out.drew
end Go.Proofs.Ytjmlekdgipinfaa
