/- note.New. -/
import Derived.Test.YtpiboaoifcajdaaNtG
import Derived.Test.YtpiboaoifcajdaaRangeA
import Derived.Maps.OwnIn
namespace Go.Proofs.Ytpiboaoifcajdaa
open Go.RowKit Go.Shelf
attribute [local go_sem] Oper.semAt_some

/-- What New answers: a new log. -/
def GaveLog (s : Int) (ps : List (List UInt8)) (w : World) (e : Ending) (w' : World) : Prop :=
  ∃ lb mb base v, e = .returned (.pointer (some ⟨lb, 0, none⟩)) ∧ LogAt w' lb mb base (logOf s ps) v ∧ w.heap.size ≤ mb ∧ Chg (fun _ => False) w w'
theorem onlyN_of {Q : Exit → Act → World → Prop} {a : Act} {w : World} (h : Q .normal a w) : OnlyN (Q .normal) .normal a w := h
theorem new_leave {s : Int} {ps : List (List UInt8)} {w W : World} {D lb mb base : Nat} {v : Value} {t : Array Value} (hK : W.heap[D]? = some (.deferred (some []))) (hD : lb < D ∧ w.heap.size ≤ D) (ht : t[4]? = some (.pointer (some ⟨lb, 0, none⟩)))
    (hL : LogAt W lb mb base (logOf s ps) v) (hm : w.heap.size ≤ mb) (hW : Chg (fun _ => False) w W) :
    bodyPostM Fence.wide 8 Try.prog Try.f15 (GaveLog s ps w) .ret { tmps := t, defers := [{ target := .collected D, args := #[] }] } W := by
  refine leave_mark (v := .pointer (some ⟨lb, 0, none⟩)) hK ?_ ⟨lb, mb, base, v, rfl, hL.kept hD.1 (grownBy_putObj' W D _) (fun r e => by cases e; exact ⟨Nat.le_refl _, _, hK, rfl⟩), hm, hW.putObj (.inr hD.2) _⟩
  simp [results, Try.f15, go_sem, ht]
set_option maxRecDepth 100000 in
set_option maxHeartbeats 1000000 in
theorem new_any (s : Int) (ao : Option Addr) (n c : Nat) (ps : List (List UInt8)) (w : World) (hP : Pay w (.slice ao n c) ps) (hn : ps.length = n) (hn2 : n ≤ 1000000) (hsm : ∀ xs ∈ ps, xs.length ≤ 140737488355328) : Calls Try.prog 15 #[.int .i64 s, .slice ao n c] w (GaveLog s ps w) := by
  have hmm : ∀ w, (Instr.makeMap 73 none).run Try.prog w = .ok (.map (some w.heap.size)) (w.alloc (.map #[] 0)) := fun w => rfl
  (refine calls_of_wp_marks Try.func15 rfl ?_; simp only [Try.ntmps15, List.size_toArray, List.length_cons, List.length_nil, Nat.reduceAdd, Nat.reduceSub, Array.replicate_succ, Array.replicate_zero, List.push_toArray, List.append_toArray, List.nil_append, List.cons_append])
  go_wp2
  go_step3
  go_wp2_with fail
  go_step3
  go_wp2_with (go_at_call 39; refine (all_any _ _ _ _).mono ?_; rintro e w' ⟨rfl, rfl⟩)
  obtain ⟨w1, hw1⟩ : ∃ w1, w.alloc (.cells #[.int .i64 s] 3) = w1 := ⟨_, rfl⟩
  obtain ⟨w8, hw8⟩ : ∃ w8, ((((w.alloc (.cells #[.int .i64 s] 3)).alloc (.map #[] 0)).alloc (.cells #[.bool false, .slice none 0 0, .map (some (w.heap.size + 1))] 75)).alloc (.cells #[.pointer (some ⟨w.heap.size + 2, 0, none⟩)] 38)).alloc (.cells #[.slice ao n c] 36) = w8 := ⟨_, rfl⟩
  have hC8 : Chg (fun _ => False) w w8 := by rw [← hw8]; exact (((((Chg.refl _ w).alloc _).alloc _).alloc _).alloc _).alloc _
  have hsz : w8.heap.size = w.heap.size + 5 := by rw [← hw8]; simp
  have q0 : w8.cell? ⟨w.heap.size, 0, none⟩ = some (.int .i64 s) := by rw [← hw8]; exact alloc_cell (alloc_cell (alloc_cell (alloc_cell (new_cell w _ _ rfl) _) _) _) _
  have q3 : w8.cell? ⟨w.heap.size + 3, 0, none⟩ = some (.pointer (some ⟨w.heap.size + 2, 0, none⟩)) := by
    have h := new_cell (((w.alloc (.cells #[.int .i64 s] 3)).alloc (.map #[] 0)).alloc (.cells #[.bool false, .slice none 0 0, .map (some (w.heap.size + 1))] 75)) #[.pointer (some ⟨w.heap.size + 2, 0, none⟩)] 38 (i := 0) rfl
    simp only [World.size_alloc] at h
    rw [← hw8]
    exact alloc_cell h _
  have q4 : w8.cell? ⟨w.heap.size + 4, 0, none⟩ = some (.slice ao n c) := by
    have h := new_cell ((((w.alloc (.cells #[.int .i64 s] 3)).alloc (.map #[] 0)).alloc (.cells #[.bool false, .slice none 0 0, .map (some (w.heap.size + 1))] 75)).alloc (.cells #[.pointer (some ⟨w.heap.size + 2, 0, none⟩)] 38)) #[.slice ao n c] 36 (i := 0) rfl
    simp only [World.size_alloc] at h
    rw [← hw8]
    exact h
  have hL8 : LogAt w8 (w.heap.size + 2) (w.heap.size + 1) (w.heap.size + 5) ⟨false, [], [], false⟩ (.slice none 0 0) := by
    have hf : FilesAt (w1.alloc (.map #[] 0)) (w.heap.size + 1) [] := by
      have h := World.ownsMap_made w1 Try.prog 80 (plainElem (H := Unit) Try.prog 2)
      rw [show w1.heap.size = w.heap.size + 1 by rw [← hw1]; simp] at h
      exact h
    rw [hw1] at hw8
    have hs2 : (w1.alloc (.map #[] 0)).heap.size = w.heap.size + 2 := by rw [← hw1]; simp
    have h (i : Nat) (v : Value) (hi : (#[.bool false, .slice none 0 0, .map (some (w.heap.size + 1))] : Array Value)[i]? = some v) : w8.cell? ⟨w.heap.size + 2, i, none⟩ = some v ∧ w8.frozen? ⟨w.heap.size + 2, i, none⟩ = false := by
      have h1 := new_cell (w1.alloc (.map #[] 0)) _ 75 hi
      have h2 := new_frozen (w1.alloc (.map #[] 0)) #[.bool false, .slice none 0 0, .map (some (w.heap.size + 1))] 75 i
      rw [hs2] at h1 h2
      rw [← hw8]
      exact ⟨alloc_cell (alloc_cell h1 _) _, alloc_frozen (alloc_cell h1 _) (alloc_frozen h1 h2 _) _⟩
    refine ⟨(h 0 _ rfl).1, (h 1 _ rfl).1, (h 2 _ rfl).1, (h 0 _ rfl).2, (h 1 _ rfl).2, World.ownsRow_nil _ _ _ _, ?_, by omega, by omega⟩
    rw [← hw8]
    exact World.ownsMap.alloc (World.ownsMap.alloc (World.ownsMap.alloc hf _) _) _
  rw [hw8]
  clear hw1 hw8 w1
  have hP8 := hP.fr hC8
  refine wp_rangeTA (gf := 48) (lb := #[.pointer (some ⟨w.heap.size + 4, 0, none⟩)]) (R := fun k => k < w.heap.size) (T := fun _ => False) rfl (enters_of Try.func48 (by kernel_rfl) rfl)
    (fun q h => h.elim) (fun q h => by omega) (all_seq (w.heap.size + 4) w.heap.size ao n c ps hn (by omega) hsm w w8 rfl hP (by omega) (fun q hq => hC8.block q hq id) q4) (fun _ => rfl)
    (NewI s w8 (w.heap.size + 2) (w.heap.size + 1) (w.heap.size + 5)) (NewX s w8 (w.heap.size + 2) (w.heap.size + 1) (w.heap.size + 5))
    (NewI.own _ _ _ _ _ _ (Nat.le_refl _) (by omega)) (NewX.own _ _ _ _ _ _ (Nat.le_refl _) (by omega)) (NewI.abides _ _ _ _ _) (NewX.abides _ _ _ _ _) ⟨⟨⟨_, hL8⟩, rfl⟩, Chg.refl _ _⟩ ?a1
    (fun x W => W.alloc (.cells #[.int .i64 (noteP x.2).k, .int .i64 (noteP x.2).a, .int .i64 (noteP x.2).b, .int .i64 (noteP x.2).n] 23)) (fun _ W => World.grownBy_alloc W _ none)
    (fun p W => W.cell? ⟨p.2, 0, none⟩ = some (.int .i64 (noteP p.1.2).k) ∧ W.cell? ⟨p.2, 1, none⟩ = some (.int .i64 (noteP p.1.2).a) ∧ W.cell? ⟨p.2, 2, none⟩ = some (.int .i64 (noteP p.1.2).b) ∧ W.cell? ⟨p.2, 3, none⟩ = some (.int .i64 (noteP p.1.2).n) ∧ ∃ v, W.cell? ⟨w.heap.size + 2, 1, none⟩ = some v ∧ ∀ q, v.ownBlock = some q → q < p.2)
    (fun _ _ _ _ hs hg hr => ⟨cell_kept hs.1 hg (fun r e => (hr r e).2), cell_kept hs.2.1 hg (fun r e => (hr r e).2), cell_kept hs.2.2.1 hg (fun r e => (hr r e).2), cell_kept hs.2.2.2.1 hg (fun r e => (hr r e).2), hs.2.2.2.2.imp fun _ h => ⟨cell_kept h.1 hg (fun r e => (hr r e).2), h.2⟩⟩)
    (fun pre x W hI => ⟨new_cell W _ _ rfl, new_cell W _ _ rfl, new_cell W _ _ rfl, new_cell W _ _ rfl, by obtain ⟨⟨⟨v, hL⟩, _⟩, _⟩ := hI; exact ⟨v, alloc_cell hL.c1 _, fun q e => (hL.own.lt q e).2⟩⟩) ?assign ?body ?done ?stop
  case assign =>
    intro l x W K hK
    simp only [encP, decV_noteP, ntV]
    gi_wp2
    generalize W.heap.size = m at hK ⊢
    exact hK
  case body =>
    rintro l pre ⟨i, xs⟩ m W ⟨⟨⟨v, hL⟩, hst⟩, hC⟩ ⟨g0, g1, g2, g3, v9, g4, g5⟩ hm hlen
    have hrun := runG_snoc s pre (i, xs)
    rw [hst] at hrun
    simp only [Bool.false_eq_true, if_false] at hrun
    have hok := noteP_ok xs
    obtain ⟨hl1, hl2, hl3, hl4⟩ := runG_len s pre
    simp only at g0 g1 g2 g3 hrun
    generalize runG s pre = t at *
    generalize noteP xs = y at *
    obtain ⟨k, a, b, z⟩ := y
    simp only at g0 g1 g2 g3
    clear hL8 hP8 hP hsm
    have p0 := hC.cell q0 (by simp)
    have p3 := hC.cell q3 (by simp)
    have r0 := hL.c0
    have r1 := hL.c1
    have r2 := hL.c2
    have f0 := hL.z0
    have f1 := hL.z1
    obtain ⟨ao2, L, cp, rfl, hLn⟩ := owns_name hL.own
    have e9 := hL.c1.symm.trans g4
    injection e9 with e9
    subst e9
    have n1 : ¬ (w.heap.size + 3 = w.heap.size + 2 ∨ w.heap.size + 3 = w.heap.size + 1) := by omega
    by_cases hi : i = 0
    · subst hi
      by_cases hk : k = 1
      · subst hk
        by_cases ha : a = s
        · subst ha
          gi_wp2
          exact ⟨(KeepsOthers.setCell _ _ _).from _, Keep.setCell _ (by simp), NewI.to (t' := { t with bg := true }) (hrun.trans (by simp [stepG])) (hL.begun true) hst (hC.setCell (.inl (.inl rfl)) _)⟩
        · gi_wp2
          exact ⟨KeepsFrom.refl _ _, NewX.to (t' := { t with stop := true }) (hrun.trans (by simp [stepG, ha])) (hL.st _ rfl rfl rfl) rfl hC⟩
      · gi_wp2
        exact ⟨KeepsFrom.refl _ _, NewX.to (t' := { t with stop := true }) (hrun.trans (by simp [stepG, hk])) (hL.st _ rfl rfl rfl) rfl hC⟩
    · have hi2 : ¬ (i : Int) = 0 := by omega
      have hi3 : (0 : Int) < i := by omega
      by_cases hk : k = 1
      · subst hk
        gi_wp2
        exact ⟨KeepsFrom.refl _ _, NewX.to (t' := { t with stop := true }) (hrun.trans (by simp [stepG, hi])) (hL.st _ rfl rfl rfl) rfl hC⟩
      · gi_wp2_with fail
        have hC0 := (Chg.refl (fun _ => False) W).drew
        have hLd := hL.chg hC0 id id (fun _ _ => id)
        refine in_region_held (S := fun w' => w'.cell? ⟨w.heap.size + 3, 0, none⟩ = some (.pointer (some ⟨w.heap.size + 2, 0, none⟩)) ∧ w'.cell? ⟨m, 0, none⟩ = some (.int .i64 k) ∧ w'.cell? ⟨m, 1, none⟩ = some (.int .i64 a) ∧ w'.cell? ⟨m, 2, none⟩ = some (.int .i64 b) ∧ w'.cell? ⟨m, 3, none⟩ = some (.int .i64 z)) (by kernel_rfl) (by kernel_rfl) ⟨p3, g0, g1, g2, g3⟩ (fun hHeld => ?_)
        refine' wpAnyH_take (i := 0) (oi := _) (v := .pointer (some ⟨w.heap.size + 2, 0, none⟩)) ?hi0 (by kernel_rfl) (by kernel_rfl) (by kernel_rfl) ?hq0 (Or.inl ⟨?hw0, fun w hSw => ?hy0⟩) hHeld ?hk0
        case hi0 => (simp only [List.getElem?_toArray, List.getElem?_cons_zero]; rfl)
        case hq0 => exact fun _ _ _ h => h
        case hw0 => rfl
        case hy0 => first | (go_simp; done) | (go_simp; with_reducible rfl)
        simp only [Act.put, List.setIfInBounds_toArray, List.set_cons_zero, List.set_cons_succ]
        refine' wpAnyH_take (i := 1) (oi := _) (v := .pointer (some ⟨w.heap.size + 2, 0, none⟩)) ?hi1 (by kernel_rfl) (by kernel_rfl) (by kernel_rfl) ?hq1 (Or.inl ⟨?hw1, fun w hSw => ?hy1⟩) hHeld ?hk1
        case hi1 => (simp only [List.getElem?_toArray, List.getElem?_cons_succ, List.getElem?_cons_zero]; rfl)
        case hq1 => exact fun _ _ _ h => h
        case hw1 => rfl
        case hy1 => first | (go_simp; done) | (go_simp; with_reducible rfl)
        simp only [Act.put, List.setIfInBounds_toArray, List.set_cons_zero, List.set_cons_succ]
        refine' wpAnyH_take (i := 2) (oi := _) (v := .pointer (some ⟨w.heap.size + 2, 0, none⟩)) ?hi2 (by kernel_rfl) (by kernel_rfl) (by kernel_rfl) ?hq2 (Or.inl ⟨?hw2, fun w hSw => ?hy2⟩) hHeld ?hk2
        case hi2 => (simp only [List.getElem?_toArray, List.getElem?_cons_succ, List.getElem?_cons_zero]; rfl)
        case hq2 => exact fun _ _ _ h => h
        case hw2 => rfl
        case hy2 => first | (go_simp; done) | (go_simp; with_reducible rfl)
        simp only [Act.put, List.setIfInBounds_toArray, List.set_cons_zero, List.set_cons_succ]
        refine' wpAnyH_take (i := 3) (oi := _) (v := .pointer (some ⟨w.heap.size + 2, 1, none⟩)) ?hi3 (by kernel_rfl) (by kernel_rfl) (by kernel_rfl) ?hq3 (Or.inl ⟨?hw3, fun w hSw => ?hy3⟩) hHeld ?hk3
        case hi3 => (simp only [List.getElem?_toArray, List.getElem?_cons_succ, List.getElem?_cons_zero]; rfl)
        case hq3 => exact fun _ _ _ h => h
        case hw3 => rfl
        case hy3 => first | (go_simp; done) | (go_simp; with_reducible rfl)
        simp only [Act.put, List.setIfInBounds_toArray, List.set_cons_zero, List.set_cons_succ]
        refine' wpAnyH_take (i := 5) (oi := _) (v := .agg #[.int .i64 k, .int .i64 a, .int .i64 b, .int .i64 z]) ?hi5 (by kernel_rfl) (by kernel_rfl) (by kernel_rfl) ?hq5 (Or.inl ⟨?hw5, fun w hSw => ?hy5⟩) hHeld ?hk5
        case hi5 => (simp only [List.getElem?_toArray, List.getElem?_cons_succ, List.getElem?_cons_zero]; rfl)
        case hq5 => exact fun _ _ _ h => h
        case hw5 => rfl
        case hy5 => first | (go_simp; done) | (go_simp; with_reducible rfl)
        simp only [Act.put, List.setIfInBounds_toArray, List.set_cons_zero, List.set_cons_succ]
        have r1d := hLd.c1
        have hCa := (Chg.refl (fun _ => False) W).alloc (.cells #[.int .i64 k, .int .i64 a, .int .i64 b, .int .i64 z] 23)
        replace hCa := hCa.drew
        have hLa := hL.chg hCa id id (fun _ _ => id)
        have r1a := hLa.c1
        have p3a := hCa.cell p3 id
        have g0a := hCa.cell g0 id
        have g1a := hCa.cell g1 id
        have g2a := hCa.cell g2 id
        have g3a := hCa.cell g3 id
        obtain ⟨i0, hinf, hz0, hz1, hz2⟩ := info_parts info_note
        refine wpAnyH_ready (rs := [4, 6]) (by kernel_rfl) (by simp) ?_
        refine AllReadyH.cons rfl (fun K hK => ?_) (AllReadyH.cons rfl (fun K hK => ?_) AllReadyH.nil)
        · go_simp
          refine hK.out _ _ hHeld (fun hHeld => ?_)
          clear hK K
          refine wpAnyH_ready (rs := [6]) (by kernel_rfl) (by simp) ?_
          refine AllReadyH.cons rfl (fun K hK => ?_) AllReadyH.nil
          go_simp
          refine hK.out _ _ ⟨p3a, g0a, g1a, g2a, g3a⟩ (fun hHeld => ?_)
          clear hK K
          refine wpAnyH_ready (rs := [7]) (by kernel_rfl) (by simp) ?_
          refine AllReadyH.cons rfl (fun K hK => ?_) AllReadyH.nil
          refine step_append_own rfl (.tmp 47) (.tmp 49) 40 rfl (w.heap.size + 5) 23 i0 (.agg #[.int .i64 0, .int .i64 0, .int .i64 0, .int .i64 0]) 4 32 und_notes hinf hz0 hz1 hz2 rfl (by decide) _ _ _ rfl hLa.own (some ⟨W.heap.size, 0, none⟩) 1 1 (ntL ⟨k, a, b, z⟩) rfl rfl (fun j u hu => ⟨_, rfl, by rw [Addr.add_lit, Nat.zero_add]; exact new_cell W _ _ (by simpa [ntL] using hu)⟩) (by simp [ntL, Value.oneCell']) (by simp [maxLen]; omega) (by omega) (by have := hC.size; simp; omega) ?_
          intro v3 w1 hown2 hg2 _ _
          obtain ⟨ao3, L3, cp3, rfl, _⟩ := owns_name hown2
          have hC1 := (Chg.refl (fun q => (Value.slice ao2 L cp).ownBlock = some q) _).grown hg2 (fun k e => .inl e)
          have b1 : ∀ q, (Value.slice ao2 L cp).ownBlock = some q → w.heap.size + 5 ≤ q := fun q e => (hL.own.lt q e).1
          have nm : ¬ (Value.slice ao2 L cp).ownBlock = some m := fun e => by have := g5 _ e; omega
          have n3 : ¬ (Value.slice ao2 L cp).ownBlock = some (w.heap.size + 3) := fun e => by have := b1 _ e; omega
          have n2 : ¬ (Value.slice ao2 L cp).ownBlock = some (w.heap.size + 2) := fun e => by have := b1 _ e; omega
          have p3b := hC1.cell p3a n3
          have g0b := hC1.cell g0a nm
          have g1b := hC1.cell g1a nm
          have g2b := hC1.cell g2a nm
          have g3b := hC1.cell g3a nm
          have r1b := hC1.cell r1a n2
          have z1b := hC1.frozen r1a hLa.z1 n2
          have hLb := hLa.more hg2 (fun q e => b1 q e) hown2
          have hKb := (KeepsOthers.alloc W (.cells #[.int .i64 k, .int .i64 a, .int .i64 b, .int .i64 z] 23)).trans ((KeepsOthers.drew _).trans ((keeps_grown hLa.own hg2).trans (KeepsOthers.setCell w1 ⟨w.heap.size + 2, 1, none⟩ (Value.slice ao3 L3 cp3))))
          have hCb := (hCa.trans hC1 (T := fun q => q = w.heap.size + 2 ∨ (Value.slice ao2 L cp).ownBlock = some q) (fun _ _ h => h.elim) (fun _ _ h => .inr h)).setCell (p := ⟨w.heap.size + 2, 1, none⟩) (.inl (.inl rfl)) (Value.slice ao3 L3 cp3)
          go_simp
          refine hK.out _ _ ⟨p3b, g0b, g1b, g2b, g3b⟩ (fun hHeld => ?_)
          clear hK K
          refine' wpAnyH_take (i := 8) (oi := _) (v := .pointer (some ⟨w.heap.size + 2, 0, none⟩)) ?hia8 (by kernel_rfl) (by kernel_rfl) (by kernel_rfl) ?hqa8 (Or.inl ⟨?hwa8, fun w hSw => ?hya8⟩) hHeld ?hka8
          case hia8 => (simp only [List.getElem?_toArray, List.getElem?_cons_succ, List.getElem?_cons_zero]; rfl)
          case hqa8 => exact fun _ _ _ h => h
          case hwa8 => rfl
          case hya8 => first | (go_simp; done) | (go_simp; with_reducible rfl)
          simp only [Act.put, List.setIfInBounds_toArray, List.set_cons_zero, List.set_cons_succ]
          refine' wpAnyH_take (i := 9) (oi := _) (v := .pointer (some ⟨w.heap.size + 2, 1, none⟩)) ?hia9 (by kernel_rfl) (by kernel_rfl) (by kernel_rfl) ?hqa9 (Or.inl ⟨?hwa9, fun w hSw => ?hya9⟩) hHeld ?hka9
          case hia9 => (simp only [List.getElem?_toArray, List.getElem?_cons_succ, List.getElem?_cons_zero]; rfl)
          case hqa9 => exact fun _ _ _ h => h
          case hwa9 => rfl
          case hya9 => first | (go_simp; done) | (go_simp; with_reducible rfl)
          simp only [Act.put, List.setIfInBounds_toArray, List.set_cons_zero, List.set_cons_succ]
          refine wpAnyH_ready (rs := [10]) (by kernel_rfl) (by simp) ?_
          refine AllReadyH.cons rfl (fun K hK => ?_) AllReadyH.nil
          go_simp
          have hCs := chg_cell w1 (w.heap.size + 2) 1 (Value.slice ao3 L3 cp3)
          have nm2 : ¬ m = w.heap.size + 2 := by omega
          have p3c := hCs.cell p3b (by simp)
          have g0c := hCs.cell g0b nm2
          have g1c := hCs.cell g1b nm2
          have g2c := hCs.cell g2b nm2
          have g3c := hCs.cell g3b nm2
          refine hK.out _ _ ⟨p3c, g0c, g1c, g2c, g3c⟩ (fun hHeld => ?_)
          clear hK K
          refine wpAnyH_done (by kernel_rfl) ?_ _
          refine onlyN_of ?_
          have hRb : Keep (fun k => k < w.heap.size) W (w1.setCell ⟨w.heap.size + 2, 1, none⟩ (Value.slice ao3 L3 cp3)) := Keep.of_chg hCb (fun q hq => ⟨by have := hC.size; omega, fun h => h.elim (fun e => by omega) (fun e => by have := b1 q e; omega)⟩)
          have hXb := hC.trans hCb (T := fun q => q = w.heap.size + 2 ∨ q = w.heap.size + 1) (fun _ _ h => h) (fun q hq h => h.elim .inl (fun e => by have := b1 q e; omega))
          clear hCs p3b g0b g1b g2b g3b r1b z1b hg2 hown2 hC1 hCb p3a g0a g1a g2a g3a r1a hCa hLa hLd hC0
          obtain ⟨W3, hW3⟩ : ∃ W3, w1.setCell ⟨w.heap.size + 2, 1, none⟩ (Value.slice ao3 L3 cp3) = W3 := ⟨_, rfl⟩
          rw [hW3] at p3c g0c g1c g2c g3c hLb hKb hRb hXb ⊢
          clear hW3
          have r2c := hLb.c2
          by_cases h4 : k = 4
          · subst h4
            gi_wp2
            exact ⟨hKb.from _, NewX.to (t' := { t with l := t.l ++ [⟨4, a, b, z⟩], stop := true }) (hrun.trans (by simp [stepG, hi])) (hLb.st _ rfl rfl rfl) rfl hXb⟩
          · by_cases h5 : k = 5
            · subst h5
              gi_wp2
              exact ⟨hKb.from _, NewX.to (t' := { t with l := t.l ++ [⟨5, a, b, z⟩], stop := true }) (hrun.trans (by simp [stepG, hi])) (hLb.st _ rfl rfl rfl) rfl hXb⟩
            · have b4 : (k == 4) = false := beq_eq_false_iff_ne.2 h4
              have b5 : (k == 5) = false := beq_eq_false_iff_ne.2 h5
              gi_wp2_with fail
              have hCf := (Chg.refl (fun _ => False) W3).drew
              have hLf := hLb.chg hCf id id (fun _ _ => id)
              obtain ⟨w4, hst4, hfl4, htu4⟩ := hLf.fil.store (by simp [maxLen]; omega) hok
              simp only [keyV] at hst4
              have hLg := hLf.filed hfl4 htu4
              have hCg : Chg (fun q => q = w.heap.size + 1) W3.drew w4 := (Chg.refl _ _).grown htu4.grown (fun q e => .inl (Option.some.inj e).symm)
              have hKg : KeepsFrom w8.heap.size W3 w4 := ((KeepsOthers.drew W3).from _).trans (KeepsFrom.of_grownBy htu4.grown (fun j e => by have := Option.some.inj e; omega))
              have hRg : Keep (fun k => k < w.heap.size) W3 w4 := Keep.of_chg (S := fun q => q = w.heap.size + 1) (Chg.trans hCf hCg (fun _ _ h => h.elim) (fun _ _ h => h)) (fun q hq => ⟨by have := hXb.size; omega, by omega⟩)
              have hXg := hXb.trans (Chg.trans hCf hCg (T := fun q => q = w.heap.size + 1) (fun _ _ h => h.elim) (fun _ _ h => h)) (T := fun q => q = w.heap.size + 2 ∨ q = w.heap.size + 1) (fun _ _ h => h) (fun _ _ h => .inr h)
              have nm3 : ¬ m = w.heap.size + 1 := by omega
              refine in_region_held (S := fun w' => w'.cell? ⟨w.heap.size + 3, 0, none⟩ = some (.pointer (some ⟨w.heap.size + 2, 0, none⟩)) ∧ w'.cell? ⟨w.heap.size + 2, 2, none⟩ = some (.map (some (w.heap.size + 1))) ∧ w'.cell? ⟨m, 0, none⟩ = some (.int .i64 k) ∧ w'.cell? ⟨m, 1, none⟩ = some (.int .i64 a) ∧ w'.cell? ⟨m, 2, none⟩ = some (.int .i64 b) ∧ w'.cell? ⟨m, 3, none⟩ = some (.int .i64 z)) (by kernel_rfl) (by kernel_rfl) ⟨p3c, r2c, g0c, g1c, g2c, g3c⟩ (fun hHeld => ?_)
              refine' wpAnyH_take (i := 0) (oi := _) (v := .pointer (some ⟨w.heap.size + 2, 0, none⟩)) ?hifa0 (by kernel_rfl) (by kernel_rfl) (by kernel_rfl) ?hqfa0 (Or.inl ⟨?hwfa0, fun w hSw => ?hyfa0⟩) hHeld ?hkfa0
              case hifa0 => (simp only [List.getElem?_toArray, List.getElem?_cons_zero]; rfl)
              case hqfa0 => exact fun _ _ _ h => h
              case hwfa0 => rfl
              case hyfa0 => first | (go_simp; done) | (go_simp; with_reducible rfl)
              simp only [Act.put, List.setIfInBounds_toArray, List.set_cons_zero, List.set_cons_succ]
              refine' wpAnyH_take (i := 1) (oi := _) (v := .pointer (some ⟨w.heap.size + 2, 0, none⟩)) ?hifa1 (by kernel_rfl) (by kernel_rfl) (by kernel_rfl) ?hqfa1 (Or.inl ⟨?hwfa1, fun w hSw => ?hyfa1⟩) hHeld ?hkfa1
              case hifa1 => (simp only [List.getElem?_toArray, List.getElem?_cons_succ, List.getElem?_cons_zero]; rfl)
              case hqfa1 => exact fun _ _ _ h => h
              case hwfa1 => rfl
              case hyfa1 => first | (go_simp; done) | (go_simp; with_reducible rfl)
              simp only [Act.put, List.setIfInBounds_toArray, List.set_cons_zero, List.set_cons_succ]
              refine' wpAnyH_take (i := 2) (oi := _) (v := .pointer (some ⟨w.heap.size + 2, 2, none⟩)) ?hifa2 (by kernel_rfl) (by kernel_rfl) (by kernel_rfl) ?hqfa2 (Or.inl ⟨?hwfa2, fun w hSw => ?hyfa2⟩) hHeld ?hkfa2
              case hifa2 => (simp only [List.getElem?_toArray, List.getElem?_cons_succ, List.getElem?_cons_zero]; rfl)
              case hqfa2 => exact fun _ _ _ h => h
              case hwfa2 => rfl
              case hyfa2 => first | (go_simp; done) | (go_simp; with_reducible rfl)
              simp only [Act.put, List.setIfInBounds_toArray, List.set_cons_zero, List.set_cons_succ]
              refine' wpAnyH_take (i := 3) (oi := _) (v := .map (some (w.heap.size + 1))) ?hifa3 (by kernel_rfl) (by kernel_rfl) (by kernel_rfl) ?hqfa3 (Or.inl ⟨?hwfa3, fun w hSw => ?hyfa3⟩) hHeld ?hkfa3
              case hifa3 => (simp only [List.getElem?_toArray, List.getElem?_cons_succ, List.getElem?_cons_zero]; rfl)
              case hqfa3 => exact fun _ _ _ h => h
              case hwfa3 => rfl
              case hyfa3 => first | (go_simp; done) | (go_simp; with_reducible rfl)
              simp only [Act.put, List.setIfInBounds_toArray, List.set_cons_zero, List.set_cons_succ]
              refine' wpAnyH_take (i := 4) (oi := _) (v := .pointer (some ⟨m, 0, none⟩)) ?hifa4 (by kernel_rfl) (by kernel_rfl) (by kernel_rfl) ?hqfa4 (Or.inl ⟨?hwfa4, fun w hSw => ?hyfa4⟩) hHeld ?hkfa4
              case hifa4 => (simp only [List.getElem?_toArray, List.getElem?_cons_succ, List.getElem?_cons_zero]; rfl)
              case hqfa4 => exact fun _ _ _ h => h
              case hwfa4 => rfl
              case hyfa4 => first | (go_simp; done) | (go_simp; with_reducible rfl)
              simp only [Act.put, List.setIfInBounds_toArray, List.set_cons_zero, List.set_cons_succ]
              refine' wpAnyH_take (i := 5) (oi := _) (v := .int .i64 k) ?hifa5 (by kernel_rfl) (by kernel_rfl) (by kernel_rfl) ?hqfa5 (Or.inl ⟨?hwfa5, fun w hSw => ?hyfa5⟩) hHeld ?hkfa5
              case hifa5 => (simp only [List.getElem?_toArray, List.getElem?_cons_succ, List.getElem?_cons_zero]; rfl)
              case hqfa5 => exact fun _ _ _ h => h
              case hwfa5 => rfl
              case hyfa5 => first | (go_simp; done) | (go_simp; with_reducible rfl)
              simp only [Act.put, List.setIfInBounds_toArray, List.set_cons_zero, List.set_cons_succ]
              refine' wpAnyH_take (i := 6) (oi := _) (v := .pointer (some ⟨m, 1, none⟩)) ?hifa6 (by kernel_rfl) (by kernel_rfl) (by kernel_rfl) ?hqfa6 (Or.inl ⟨?hwfa6, fun w hSw => ?hyfa6⟩) hHeld ?hkfa6
              case hifa6 => (simp only [List.getElem?_toArray, List.getElem?_cons_succ, List.getElem?_cons_zero]; rfl)
              case hqfa6 => exact fun _ _ _ h => h
              case hwfa6 => rfl
              case hyfa6 => first | (go_simp; done) | (go_simp; with_reducible rfl)
              simp only [Act.put, List.setIfInBounds_toArray, List.set_cons_zero, List.set_cons_succ]
              refine' wpAnyH_take (i := 7) (oi := _) (v := .int .i64 a) ?hifa7 (by kernel_rfl) (by kernel_rfl) (by kernel_rfl) ?hqfa7 (Or.inl ⟨?hwfa7, fun w hSw => ?hyfa7⟩) hHeld ?hkfa7
              case hifa7 => (simp only [List.getElem?_toArray, List.getElem?_cons_succ, List.getElem?_cons_zero]; rfl)
              case hqfa7 => exact fun _ _ _ h => h
              case hwfa7 => rfl
              case hyfa7 => first | (go_simp; done) | (go_simp; with_reducible rfl)
              simp only [Act.put, List.setIfInBounds_toArray, List.set_cons_zero, List.set_cons_succ]
              refine' wpAnyH_take (i := 8) (oi := _) (v := .pointer (some ⟨m, 2, none⟩)) ?hifa8 (by kernel_rfl) (by kernel_rfl) (by kernel_rfl) ?hqfa8 (Or.inl ⟨?hwfa8, fun w hSw => ?hyfa8⟩) hHeld ?hkfa8
              case hifa8 => (simp only [List.getElem?_toArray, List.getElem?_cons_succ, List.getElem?_cons_zero]; rfl)
              case hqfa8 => exact fun _ _ _ h => h
              case hwfa8 => rfl
              case hyfa8 => first | (go_simp; done) | (go_simp; with_reducible rfl)
              simp only [Act.put, List.setIfInBounds_toArray, List.set_cons_zero, List.set_cons_succ]
              refine' wpAnyH_take (i := 9) (oi := _) (v := .int .i64 b) ?hifa9 (by kernel_rfl) (by kernel_rfl) (by kernel_rfl) ?hqfa9 (Or.inl ⟨?hwfa9, fun w hSw => ?hyfa9⟩) hHeld ?hkfa9
              case hifa9 => (simp only [List.getElem?_toArray, List.getElem?_cons_succ, List.getElem?_cons_zero]; rfl)
              case hqfa9 => exact fun _ _ _ h => h
              case hwfa9 => rfl
              case hyfa9 => first | (go_simp; done) | (go_simp; with_reducible rfl)
              simp only [Act.put, List.setIfInBounds_toArray, List.set_cons_zero, List.set_cons_succ]
              refine' wpAnyH_take (i := 10) (oi := _) (v := .agg #[.int .i64 k, .int .i64 a, .int .i64 b]) ?hifa10 (by kernel_rfl) (by kernel_rfl) (by kernel_rfl) ?hqfa10 (Or.inl ⟨?hwfa10, fun w hSw => ?hyfa10⟩) hHeld ?hkfa10
              case hifa10 => (simp only [List.getElem?_toArray, List.getElem?_cons_succ, List.getElem?_cons_zero]; rfl)
              case hqfa10 => exact fun _ _ _ h => h
              case hwfa10 => rfl
              case hyfa10 => first | (go_simp; done) | (go_simp; with_reducible rfl)
              simp only [Act.put, List.setIfInBounds_toArray, List.set_cons_zero, List.set_cons_succ]
              refine' wpAnyH_take (i := 11) (oi := _) (v := .pointer (some ⟨m, 3, none⟩)) ?hifa11 (by kernel_rfl) (by kernel_rfl) (by kernel_rfl) ?hqfa11 (Or.inl ⟨?hwfa11, fun w hSw => ?hyfa11⟩) hHeld ?hkfa11
              case hifa11 => (simp only [List.getElem?_toArray, List.getElem?_cons_succ, List.getElem?_cons_zero]; rfl)
              case hqfa11 => exact fun _ _ _ h => h
              case hwfa11 => rfl
              case hyfa11 => first | (go_simp; done) | (go_simp; with_reducible rfl)
              simp only [Act.put, List.setIfInBounds_toArray, List.set_cons_zero, List.set_cons_succ]
              refine' wpAnyH_take (i := 12) (oi := _) (v := .int .i64 z) ?hifa12 (by kernel_rfl) (by kernel_rfl) (by kernel_rfl) ?hqfa12 (Or.inl ⟨?hwfa12, fun w hSw => ?hyfa12⟩) hHeld ?hkfa12
              case hifa12 => (simp only [List.getElem?_toArray, List.getElem?_cons_succ, List.getElem?_cons_zero]; rfl)
              case hqfa12 => exact fun _ _ _ h => h
              case hwfa12 => rfl
              case hyfa12 => first | (go_simp; done) | (go_simp; with_reducible rfl)
              simp only [Act.put, List.setIfInBounds_toArray, List.set_cons_zero, List.set_cons_succ]
              refine wpAnyH_ready (rs := [13]) (by kernel_rfl) (by simp) ?_
              refine AllReadyH.cons rfl (fun K hK => ?_) AllReadyH.nil
              go_simp
              refine hK.out _ _ ⟨hCg.cell p3c (by simp), hCg.cell r2c (by simp), hCg.cell g0c nm3, hCg.cell g1c nm3, hCg.cell g2c nm3, hCg.cell g3c nm3⟩ (fun hHeld => ?_)
              clear hK K
              refine wpAnyH_done (by kernel_rfl) ?_ _
              refine onlyN_of ?_
              gi_wp2
              exact ⟨(hKb.from _).trans (by rw [hsz] at hKg; exact hKg), hRb.trans hRg, NewI.to (t' := { t with l := t.l ++ [⟨k, a, b, z⟩], fl := ⟨k, a, b, z⟩ :: t.fl }) (hrun.trans (by simp [stepG, hi, hk, h4, h5])) hLg hst hXg⟩
        · go_simp
          refine hK.out _ _ ⟨p3a, g0a, g1a, g2a, g3a⟩ (fun hHeld => ?_)
          clear hK K
          refine wpAnyH_ready (rs := [4]) (by kernel_rfl) (by simp) ?_
          refine AllReadyH.cons rfl (fun K hK => ?_) AllReadyH.nil
          go_simp
          refine hK.out _ _ ⟨p3a, g0a, g1a, g2a, g3a⟩ (fun hHeld => ?_)
          clear hK K
          refine wpAnyH_ready (rs := [7]) (by kernel_rfl) (by simp) ?_
          refine AllReadyH.cons rfl (fun K hK => ?_) AllReadyH.nil
          refine step_append_own rfl (.tmp 47) (.tmp 49) 40 rfl (w.heap.size + 5) 23 i0 (.agg #[.int .i64 0, .int .i64 0, .int .i64 0, .int .i64 0]) 4 32 und_notes hinf hz0 hz1 hz2 rfl (by decide) _ _ _ rfl hLa.own (some ⟨W.heap.size, 0, none⟩) 1 1 (ntL ⟨k, a, b, z⟩) rfl rfl (fun j u hu => ⟨_, rfl, by rw [Addr.add_lit, Nat.zero_add]; exact new_cell W _ _ (by simpa [ntL] using hu)⟩) (by simp [ntL, Value.oneCell']) (by simp [maxLen]; omega) (by omega) (by have := hC.size; simp; omega) ?_
          intro v3 w1 hown2 hg2 _ _
          obtain ⟨ao3, L3, cp3, rfl, _⟩ := owns_name hown2
          have hC1 := (Chg.refl (fun q => (Value.slice ao2 L cp).ownBlock = some q) _).grown hg2 (fun k e => .inl e)
          have b1 : ∀ q, (Value.slice ao2 L cp).ownBlock = some q → w.heap.size + 5 ≤ q := fun q e => (hL.own.lt q e).1
          have nm : ¬ (Value.slice ao2 L cp).ownBlock = some m := fun e => by have := g5 _ e; omega
          have n3 : ¬ (Value.slice ao2 L cp).ownBlock = some (w.heap.size + 3) := fun e => by have := b1 _ e; omega
          have n2 : ¬ (Value.slice ao2 L cp).ownBlock = some (w.heap.size + 2) := fun e => by have := b1 _ e; omega
          have p3b := hC1.cell p3a n3
          have g0b := hC1.cell g0a nm
          have g1b := hC1.cell g1a nm
          have g2b := hC1.cell g2a nm
          have g3b := hC1.cell g3a nm
          have r1b := hC1.cell r1a n2
          have z1b := hC1.frozen r1a hLa.z1 n2
          have hLb := hLa.more hg2 (fun q e => b1 q e) hown2
          have hKb := (KeepsOthers.alloc W (.cells #[.int .i64 k, .int .i64 a, .int .i64 b, .int .i64 z] 23)).trans ((KeepsOthers.drew _).trans ((keeps_grown hLa.own hg2).trans (KeepsOthers.setCell w1 ⟨w.heap.size + 2, 1, none⟩ (Value.slice ao3 L3 cp3))))
          have hCb := (hCa.trans hC1 (T := fun q => q = w.heap.size + 2 ∨ (Value.slice ao2 L cp).ownBlock = some q) (fun _ _ h => h.elim) (fun _ _ h => .inr h)).setCell (p := ⟨w.heap.size + 2, 1, none⟩) (.inl (.inl rfl)) (Value.slice ao3 L3 cp3)
          go_simp
          refine hK.out _ _ ⟨p3b, g0b, g1b, g2b, g3b⟩ (fun hHeld => ?_)
          clear hK K
          refine' wpAnyH_take (i := 8) (oi := _) (v := .pointer (some ⟨w.heap.size + 2, 0, none⟩)) ?hib8 (by kernel_rfl) (by kernel_rfl) (by kernel_rfl) ?hqb8 (Or.inl ⟨?hwb8, fun w hSw => ?hyb8⟩) hHeld ?hkb8
          case hib8 => (simp only [List.getElem?_toArray, List.getElem?_cons_succ, List.getElem?_cons_zero]; rfl)
          case hqb8 => exact fun _ _ _ h => h
          case hwb8 => rfl
          case hyb8 => first | (go_simp; done) | (go_simp; with_reducible rfl)
          simp only [Act.put, List.setIfInBounds_toArray, List.set_cons_zero, List.set_cons_succ]
          refine' wpAnyH_take (i := 9) (oi := _) (v := .pointer (some ⟨w.heap.size + 2, 1, none⟩)) ?hib9 (by kernel_rfl) (by kernel_rfl) (by kernel_rfl) ?hqb9 (Or.inl ⟨?hwb9, fun w hSw => ?hyb9⟩) hHeld ?hkb9
          case hib9 => (simp only [List.getElem?_toArray, List.getElem?_cons_succ, List.getElem?_cons_zero]; rfl)
          case hqb9 => exact fun _ _ _ h => h
          case hwb9 => rfl
          case hyb9 => first | (go_simp; done) | (go_simp; with_reducible rfl)
          simp only [Act.put, List.setIfInBounds_toArray, List.set_cons_zero, List.set_cons_succ]
          refine wpAnyH_ready (rs := [10]) (by kernel_rfl) (by simp) ?_
          refine AllReadyH.cons rfl (fun K hK => ?_) AllReadyH.nil
          go_simp
          have hCs := chg_cell w1 (w.heap.size + 2) 1 (Value.slice ao3 L3 cp3)
          have nm2 : ¬ m = w.heap.size + 2 := by omega
          have p3c := hCs.cell p3b (by simp)
          have g0c := hCs.cell g0b nm2
          have g1c := hCs.cell g1b nm2
          have g2c := hCs.cell g2b nm2
          have g3c := hCs.cell g3b nm2
          refine hK.out _ _ ⟨p3c, g0c, g1c, g2c, g3c⟩ (fun hHeld => ?_)
          clear hK K
          refine wpAnyH_done (by kernel_rfl) ?_ _
          refine onlyN_of ?_
          have hRb : Keep (fun k => k < w.heap.size) W (w1.setCell ⟨w.heap.size + 2, 1, none⟩ (Value.slice ao3 L3 cp3)) := Keep.of_chg hCb (fun q hq => ⟨by have := hC.size; omega, fun h => h.elim (fun e => by omega) (fun e => by have := b1 q e; omega)⟩)
          have hXb := hC.trans hCb (T := fun q => q = w.heap.size + 2 ∨ q = w.heap.size + 1) (fun _ _ h => h) (fun q hq h => h.elim .inl (fun e => by have := b1 q e; omega))
          clear hCs p3b g0b g1b g2b g3b r1b z1b hg2 hown2 hC1 hCb p3a g0a g1a g2a g3a r1a hCa hLa hLd hC0
          obtain ⟨W3, hW3⟩ : ∃ W3, w1.setCell ⟨w.heap.size + 2, 1, none⟩ (Value.slice ao3 L3 cp3) = W3 := ⟨_, rfl⟩
          rw [hW3] at p3c g0c g1c g2c g3c hLb hKb hRb hXb ⊢
          clear hW3
          have r2c := hLb.c2
          by_cases h4 : k = 4
          · subst h4
            gi_wp2
            exact ⟨hKb.from _, NewX.to (t' := { t with l := t.l ++ [⟨4, a, b, z⟩], stop := true }) (hrun.trans (by simp [stepG, hi])) (hLb.st _ rfl rfl rfl) rfl hXb⟩
          · by_cases h5 : k = 5
            · subst h5
              gi_wp2
              exact ⟨hKb.from _, NewX.to (t' := { t with l := t.l ++ [⟨5, a, b, z⟩], stop := true }) (hrun.trans (by simp [stepG, hi])) (hLb.st _ rfl rfl rfl) rfl hXb⟩
            · have b4 : (k == 4) = false := beq_eq_false_iff_ne.2 h4
              have b5 : (k == 5) = false := beq_eq_false_iff_ne.2 h5
              gi_wp2_with fail
              have hCf := (Chg.refl (fun _ => False) W3).drew
              have hLf := hLb.chg hCf id id (fun _ _ => id)
              obtain ⟨w4, hst4, hfl4, htu4⟩ := hLf.fil.store (by simp [maxLen]; omega) hok
              simp only [keyV] at hst4
              have hLg := hLf.filed hfl4 htu4
              have hCg : Chg (fun q => q = w.heap.size + 1) W3.drew w4 := (Chg.refl _ _).grown htu4.grown (fun q e => .inl (Option.some.inj e).symm)
              have hKg : KeepsFrom w8.heap.size W3 w4 := ((KeepsOthers.drew W3).from _).trans (KeepsFrom.of_grownBy htu4.grown (fun j e => by have := Option.some.inj e; omega))
              have hRg : Keep (fun k => k < w.heap.size) W3 w4 := Keep.of_chg (S := fun q => q = w.heap.size + 1) (Chg.trans hCf hCg (fun _ _ h => h.elim) (fun _ _ h => h)) (fun q hq => ⟨by have := hXb.size; omega, by omega⟩)
              have hXg := hXb.trans (Chg.trans hCf hCg (T := fun q => q = w.heap.size + 1) (fun _ _ h => h.elim) (fun _ _ h => h)) (T := fun q => q = w.heap.size + 2 ∨ q = w.heap.size + 1) (fun _ _ h => h) (fun _ _ h => .inr h)
              have nm3 : ¬ m = w.heap.size + 1 := by omega
              refine in_region_held (S := fun w' => w'.cell? ⟨w.heap.size + 3, 0, none⟩ = some (.pointer (some ⟨w.heap.size + 2, 0, none⟩)) ∧ w'.cell? ⟨w.heap.size + 2, 2, none⟩ = some (.map (some (w.heap.size + 1))) ∧ w'.cell? ⟨m, 0, none⟩ = some (.int .i64 k) ∧ w'.cell? ⟨m, 1, none⟩ = some (.int .i64 a) ∧ w'.cell? ⟨m, 2, none⟩ = some (.int .i64 b) ∧ w'.cell? ⟨m, 3, none⟩ = some (.int .i64 z)) (by kernel_rfl) (by kernel_rfl) ⟨p3c, r2c, g0c, g1c, g2c, g3c⟩ (fun hHeld => ?_)
              refine' wpAnyH_take (i := 0) (oi := _) (v := .pointer (some ⟨w.heap.size + 2, 0, none⟩)) ?hifb0 (by kernel_rfl) (by kernel_rfl) (by kernel_rfl) ?hqfb0 (Or.inl ⟨?hwfb0, fun w hSw => ?hyfb0⟩) hHeld ?hkfb0
              case hifb0 => (simp only [List.getElem?_toArray, List.getElem?_cons_zero]; rfl)
              case hqfb0 => exact fun _ _ _ h => h
              case hwfb0 => rfl
              case hyfb0 => first | (go_simp; done) | (go_simp; with_reducible rfl)
              simp only [Act.put, List.setIfInBounds_toArray, List.set_cons_zero, List.set_cons_succ]
              refine' wpAnyH_take (i := 1) (oi := _) (v := .pointer (some ⟨w.heap.size + 2, 0, none⟩)) ?hifb1 (by kernel_rfl) (by kernel_rfl) (by kernel_rfl) ?hqfb1 (Or.inl ⟨?hwfb1, fun w hSw => ?hyfb1⟩) hHeld ?hkfb1
              case hifb1 => (simp only [List.getElem?_toArray, List.getElem?_cons_succ, List.getElem?_cons_zero]; rfl)
              case hqfb1 => exact fun _ _ _ h => h
              case hwfb1 => rfl
              case hyfb1 => first | (go_simp; done) | (go_simp; with_reducible rfl)
              simp only [Act.put, List.setIfInBounds_toArray, List.set_cons_zero, List.set_cons_succ]
              refine' wpAnyH_take (i := 2) (oi := _) (v := .pointer (some ⟨w.heap.size + 2, 2, none⟩)) ?hifb2 (by kernel_rfl) (by kernel_rfl) (by kernel_rfl) ?hqfb2 (Or.inl ⟨?hwfb2, fun w hSw => ?hyfb2⟩) hHeld ?hkfb2
              case hifb2 => (simp only [List.getElem?_toArray, List.getElem?_cons_succ, List.getElem?_cons_zero]; rfl)
              case hqfb2 => exact fun _ _ _ h => h
              case hwfb2 => rfl
              case hyfb2 => first | (go_simp; done) | (go_simp; with_reducible rfl)
              simp only [Act.put, List.setIfInBounds_toArray, List.set_cons_zero, List.set_cons_succ]
              refine' wpAnyH_take (i := 3) (oi := _) (v := .map (some (w.heap.size + 1))) ?hifb3 (by kernel_rfl) (by kernel_rfl) (by kernel_rfl) ?hqfb3 (Or.inl ⟨?hwfb3, fun w hSw => ?hyfb3⟩) hHeld ?hkfb3
              case hifb3 => (simp only [List.getElem?_toArray, List.getElem?_cons_succ, List.getElem?_cons_zero]; rfl)
              case hqfb3 => exact fun _ _ _ h => h
              case hwfb3 => rfl
              case hyfb3 => first | (go_simp; done) | (go_simp; with_reducible rfl)
              simp only [Act.put, List.setIfInBounds_toArray, List.set_cons_zero, List.set_cons_succ]
              refine' wpAnyH_take (i := 4) (oi := _) (v := .pointer (some ⟨m, 0, none⟩)) ?hifb4 (by kernel_rfl) (by kernel_rfl) (by kernel_rfl) ?hqfb4 (Or.inl ⟨?hwfb4, fun w hSw => ?hyfb4⟩) hHeld ?hkfb4
              case hifb4 => (simp only [List.getElem?_toArray, List.getElem?_cons_succ, List.getElem?_cons_zero]; rfl)
              case hqfb4 => exact fun _ _ _ h => h
              case hwfb4 => rfl
              case hyfb4 => first | (go_simp; done) | (go_simp; with_reducible rfl)
              simp only [Act.put, List.setIfInBounds_toArray, List.set_cons_zero, List.set_cons_succ]
              refine' wpAnyH_take (i := 5) (oi := _) (v := .int .i64 k) ?hifb5 (by kernel_rfl) (by kernel_rfl) (by kernel_rfl) ?hqfb5 (Or.inl ⟨?hwfb5, fun w hSw => ?hyfb5⟩) hHeld ?hkfb5
              case hifb5 => (simp only [List.getElem?_toArray, List.getElem?_cons_succ, List.getElem?_cons_zero]; rfl)
              case hqfb5 => exact fun _ _ _ h => h
              case hwfb5 => rfl
              case hyfb5 => first | (go_simp; done) | (go_simp; with_reducible rfl)
              simp only [Act.put, List.setIfInBounds_toArray, List.set_cons_zero, List.set_cons_succ]
              refine' wpAnyH_take (i := 6) (oi := _) (v := .pointer (some ⟨m, 1, none⟩)) ?hifb6 (by kernel_rfl) (by kernel_rfl) (by kernel_rfl) ?hqfb6 (Or.inl ⟨?hwfb6, fun w hSw => ?hyfb6⟩) hHeld ?hkfb6
              case hifb6 => (simp only [List.getElem?_toArray, List.getElem?_cons_succ, List.getElem?_cons_zero]; rfl)
              case hqfb6 => exact fun _ _ _ h => h
              case hwfb6 => rfl
              case hyfb6 => first | (go_simp; done) | (go_simp; with_reducible rfl)
              simp only [Act.put, List.setIfInBounds_toArray, List.set_cons_zero, List.set_cons_succ]
              refine' wpAnyH_take (i := 7) (oi := _) (v := .int .i64 a) ?hifb7 (by kernel_rfl) (by kernel_rfl) (by kernel_rfl) ?hqfb7 (Or.inl ⟨?hwfb7, fun w hSw => ?hyfb7⟩) hHeld ?hkfb7
              case hifb7 => (simp only [List.getElem?_toArray, List.getElem?_cons_succ, List.getElem?_cons_zero]; rfl)
              case hqfb7 => exact fun _ _ _ h => h
              case hwfb7 => rfl
              case hyfb7 => first | (go_simp; done) | (go_simp; with_reducible rfl)
              simp only [Act.put, List.setIfInBounds_toArray, List.set_cons_zero, List.set_cons_succ]
              refine' wpAnyH_take (i := 8) (oi := _) (v := .pointer (some ⟨m, 2, none⟩)) ?hifb8 (by kernel_rfl) (by kernel_rfl) (by kernel_rfl) ?hqfb8 (Or.inl ⟨?hwfb8, fun w hSw => ?hyfb8⟩) hHeld ?hkfb8
              case hifb8 => (simp only [List.getElem?_toArray, List.getElem?_cons_succ, List.getElem?_cons_zero]; rfl)
              case hqfb8 => exact fun _ _ _ h => h
              case hwfb8 => rfl
              case hyfb8 => first | (go_simp; done) | (go_simp; with_reducible rfl)
              simp only [Act.put, List.setIfInBounds_toArray, List.set_cons_zero, List.set_cons_succ]
              refine' wpAnyH_take (i := 9) (oi := _) (v := .int .i64 b) ?hifb9 (by kernel_rfl) (by kernel_rfl) (by kernel_rfl) ?hqfb9 (Or.inl ⟨?hwfb9, fun w hSw => ?hyfb9⟩) hHeld ?hkfb9
              case hifb9 => (simp only [List.getElem?_toArray, List.getElem?_cons_succ, List.getElem?_cons_zero]; rfl)
              case hqfb9 => exact fun _ _ _ h => h
              case hwfb9 => rfl
              case hyfb9 => first | (go_simp; done) | (go_simp; with_reducible rfl)
              simp only [Act.put, List.setIfInBounds_toArray, List.set_cons_zero, List.set_cons_succ]
              refine' wpAnyH_take (i := 10) (oi := _) (v := .agg #[.int .i64 k, .int .i64 a, .int .i64 b]) ?hifb10 (by kernel_rfl) (by kernel_rfl) (by kernel_rfl) ?hqfb10 (Or.inl ⟨?hwfb10, fun w hSw => ?hyfb10⟩) hHeld ?hkfb10
              case hifb10 => (simp only [List.getElem?_toArray, List.getElem?_cons_succ, List.getElem?_cons_zero]; rfl)
              case hqfb10 => exact fun _ _ _ h => h
              case hwfb10 => rfl
              case hyfb10 => first | (go_simp; done) | (go_simp; with_reducible rfl)
              simp only [Act.put, List.setIfInBounds_toArray, List.set_cons_zero, List.set_cons_succ]
              refine' wpAnyH_take (i := 11) (oi := _) (v := .pointer (some ⟨m, 3, none⟩)) ?hifb11 (by kernel_rfl) (by kernel_rfl) (by kernel_rfl) ?hqfb11 (Or.inl ⟨?hwfb11, fun w hSw => ?hyfb11⟩) hHeld ?hkfb11
              case hifb11 => (simp only [List.getElem?_toArray, List.getElem?_cons_succ, List.getElem?_cons_zero]; rfl)
              case hqfb11 => exact fun _ _ _ h => h
              case hwfb11 => rfl
              case hyfb11 => first | (go_simp; done) | (go_simp; with_reducible rfl)
              simp only [Act.put, List.setIfInBounds_toArray, List.set_cons_zero, List.set_cons_succ]
              refine' wpAnyH_take (i := 12) (oi := _) (v := .int .i64 z) ?hifb12 (by kernel_rfl) (by kernel_rfl) (by kernel_rfl) ?hqfb12 (Or.inl ⟨?hwfb12, fun w hSw => ?hyfb12⟩) hHeld ?hkfb12
              case hifb12 => (simp only [List.getElem?_toArray, List.getElem?_cons_succ, List.getElem?_cons_zero]; rfl)
              case hqfb12 => exact fun _ _ _ h => h
              case hwfb12 => rfl
              case hyfb12 => first | (go_simp; done) | (go_simp; with_reducible rfl)
              simp only [Act.put, List.setIfInBounds_toArray, List.set_cons_zero, List.set_cons_succ]
              refine wpAnyH_ready (rs := [13]) (by kernel_rfl) (by simp) ?_
              refine AllReadyH.cons rfl (fun K hK => ?_) AllReadyH.nil
              go_simp
              refine hK.out _ _ ⟨hCg.cell p3c (by simp), hCg.cell r2c (by simp), hCg.cell g0c nm3, hCg.cell g1c nm3, hCg.cell g2c nm3, hCg.cell g3c nm3⟩ (fun hHeld => ?_)
              clear hK K
              refine wpAnyH_done (by kernel_rfl) ?_ _
              refine onlyN_of ?_
              gi_wp2
              exact ⟨(hKb.from _).trans (by rw [hsz] at hKg; exact hKg), hRb.trans hRg, NewI.to (t' := { t with l := t.l ++ [⟨k, a, b, z⟩], fl := ⟨k, a, b, z⟩ :: t.fl }) (hrun.trans (by simp [stepG, hi, hk, h4, h5])) hLg hst hXg⟩
  case done =>
    rintro D ys W hD rfl ⟨⟨⟨v, hL⟩, _⟩, hC⟩ hK
    have p3 := hC.cell q3 (by simp)
    clear hL8 hP8 hP hsm q0 q4
    go_wp2
    refine new_leave hK (by omega) ?_ hL (by omega) (hC8.trans hC (fun _ _ h => h) (fun i hi h => by omega))
    rfl
  case stop =>
    rintro D c pre W hD ⟨kk, hkk, rfl⟩ ⟨⟨⟨v, hL⟩, hst, rfl⟩, hC⟩ hK
    rw [logOf_stop s ps kk hkk hst] at hL
    have p3 := hC.cell q3 (by simp)
    clear hL8 hP8 hP hsm q0 q4 hst hkk
    go_wp2
    refine new_leave hK (by omega) ?_ hL (by omega) (hC8.trans hC (fun _ _ h => h) (fun i hi h => by omega))
    rfl
end Go.Proofs.Ytpiboaoifcajdaa
