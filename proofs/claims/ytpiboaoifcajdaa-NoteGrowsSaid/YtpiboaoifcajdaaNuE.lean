/- The document's Notes of a log. -/
import Derived.Test.YtpiboaoifcajdaaNuD
namespace Go.Proofs.Ytpiboaoifcajdaa
open Go.RowKit Go.Shelf

theorem dec_k {p : List UInt8} (h : decE p = 0) : 1 ≤ (noteP p).k ∧ (noteP p).k ≤ 5 ∧ 0 ≤ (noteP p).a ∧ (noteP p).a ≤ 1048576 := by
  have h1 : decOk p = true := by
    unfold decE at h
    split at h
    · assumption
    · cases h
  unfold noteP
  rw [if_pos h1]
  unfold decOk mayB at h1
  simp only [Bool.and_eq_true, decide_eq_true_eq] at h1
  obtain ⟨⟨ha, _, _, hk⟩, _⟩ := h1
  unfold inB at ha
  simp only [Bool.and_eq_true, decide_eq_true_eq] at ha
  refine ⟨?_, ?_, ha.1, ha.2⟩
  · show (1 : Int) ≤ (rK p : Int)
    split at hk
    · omega
    · split at hk
      · omega
      · simp only [Bool.or_eq_true, beq_iff_eq] at hk; omega
  · show (rK p : Int) ≤ 5
    split at hk
    · omega
    · split at hk
      · omega
      · simp only [Bool.or_eq_true, beq_iff_eq] at hk; omega
theorem Pay.at {w : World} {ao : Option Addr} {n c : Nat} {ps : List (List UInt8)} (h : Pay w (.slice ao n c) ps) {j : Nat} (hj : j < ps.length) : ∃ b o u, ao = some ⟨b, o, none⟩ ∧ w.cell? ⟨b, o + j, none⟩ = some u ∧ Sl w u (ps[j].map B) := by
  obtain ⟨vs, h1, h2, h3⟩ := h
  have hv : j < vs.length := by omega
  obtain ⟨b, o, c', e, hc⟩ := h1.cells j vs[j] (List.getElem?_eq_getElem hv)
  injection e with e1 e2 e3
  exact ⟨b, o, vs[j], e1, hc, h3 j _ _ (List.getElem?_eq_getElem hv) (List.getElem?_eq_getElem hj)⟩
def GaveR9 (w : World) (l : List Nt) (b : Bool) (e : Ending) (w' : World) : Prop := ∃ v, e = .returned (.tuple #[v, .bool b]) ∧ w'.ownsRow w.heap.size 23 4 v l.length (flatN l) ∧ Chg (fun _ => False) w w'
theorem four_cells (w : World) (x0 x1 x2 x3 : Value) (t : TypeId) : (w.alloc (.cells #[x0, x1, x2, x3] t)).cell? ⟨w.heap.size, 0, none⟩ = some x0 ∧ (w.alloc (.cells #[x0, x1, x2, x3] t)).cell? ⟨w.heap.size, 1, none⟩ = some x1 ∧ (w.alloc (.cells #[x0, x1, x2, x3] t)).cell? ⟨w.heap.size, 2, none⟩ = some x2 ∧ (w.alloc (.cells #[x0, x1, x2, x3] t)).cell? ⟨w.heap.size, 3, none⟩ = some x3 :=
  ⟨new_cell w _ _ rfl, new_cell w _ _ rfl, new_cell w _ _ rfl, new_cell w _ _ rfl⟩
theorem noteN_no {s : Int} {ps : List (List UInt8)} (h : begN s ps = false) : noteN s ps = [] := by unfold noteN; rw [h]; rfl
theorem noteN_yes {s : Int} {ps : List (List UInt8)} (h : begN s ps = true) : noteN s ps = takeN ps.tail := by unfold noteN; rw [h]; rfl
theorem nt_more {w w4 w5 : World} {x10 : Nat} {qa : Option Addr} {qL qc : Nat} {q : List Nt} {x : Nt} {v2 u : Value} {o : Obj} (hC : Chg (fun _ => False) w w4) (h : w4.ownsRow w.heap.size 23 4 (.slice qa qL qc) q.length (flatN q))
    (hn : ∀ k, (Value.slice qa qL qc).ownBlock = some k → k ≠ x10) (f0 : w4.cell? ⟨x10, 0, none⟩ = some u) (hg : (w4.alloc o).grownBy w5 (Value.slice qa qL qc).ownBlock) (h2 : w5.ownsRow w.heap.size 23 4 v2 (q.length + 1) (flatN q ++ ntL x)) :
    w5.cell? ⟨x10, 0, none⟩ = some u ∧ w5.ownsRow w.heap.size 23 4 v2 (q ++ [x]).length (flatN (q ++ [x])) ∧ Chg (fun _ => False) w w5 := by
  have hC1 : Chg (fun k => (Value.slice qa qL qc).ownBlock = some k) (w4.alloc o) w5 := (Chg.refl _ _).grown hg (fun k e => .inl e)
  have hA := (Chg.refl (fun _ => False) w4).alloc o
  refine ⟨hC1.cell (hA.cell f0 id) (fun e => hn _ e rfl), ?_, (hC.tr hA).trans hC1 (fun _ _ h => h) (fun i hi e => by have := (h.lt i e).1; omega)⟩
  rw [List.length_append, flatN_append, flatN_one]
  exact h2
set_option maxRecDepth 100000 in
set_option maxHeartbeats 4000000 in
theorem r9notes_any (s : Int) (v : Value) (ps : List (List UInt8)) (w : World) (hP : Pay w v ps) (hn2 : ps.length ≤ 1000000) : Calls Try.prog 21 #[.int .i64 s, v] w (GaveR9 w (noteN s ps) (begN s ps)) := by
  have hform : ∃ ao c, v = .slice ao ps.length c := by
    obtain ⟨vs, h1, h2, _⟩ := hP
    obtain ⟨ao, c, e, _⟩ := h1.form
    exact ⟨ao, c, by rw [e, h2]⟩
  obtain ⟨ao, c, rfl⟩ := hform
  have HP := Lib.hid hP
  obtain ⟨n, hn⟩ : ∃ n, ps.length = n := ⟨_, rfl⟩
  rw [hn] at hn2 ⊢
  have HN := Lib.hid hn
  obtain ⟨i0, hinf, hz0, hz1, hz2⟩ := info_parts info_note
  by_cases hz : n = 0
  · subst hz
    have HB := Lib.hid (show begN s ps = false by rw [List.length_eq_zero_iff.1 hn]; rfl)
    have HC := Lib.hid (Chg.refl (fun _ => False) w)
    clear hP hn hn2
    go_enter Try.func21, Try.ntmps21
    go_wp2
    go_ret2
    exact ⟨_, by rw [HB.out]; rfl, by rw [noteN_no HB.out]; exact World.ownsRow_nil _ _ _ _, HC.out⟩
  · have hz' : 0 < n := Nat.pos_of_ne_zero hz
    have HZ := Lib.hid hz'
    have b0 : ((n : Int) == 0) = false := beq_eq_false_iff_ne.2 (by omega)
    obtain ⟨pb, po, u0, rfl, hc0, hs0⟩ := hP.at (j := 0) (by omega)
    rw [Nat.add_zero] at hc0
    have hdec := r9dec_any u0 _ w hs0
    rw [decV_noteP] at hdec
    obtain ⟨p0, hp0⟩ : ∃ p, ps[0]'(by omega) = p := ⟨_, rfl⟩
    rw [hp0] at hdec
    have hcons : ps = p0 :: ps.tail := by
      cases ps with
      | nil => simp at hn; omega
      | cons x r => simp at hp0; rw [hp0]; rfl
    have HB0 := Lib.hid (show begN s ps = decide (decE p0 = 0 ∧ (noteP p0).k = 1 ∧ (noteP p0).a = s) by rw [hcons]; rfl)
    have i1 : (0 : Int) < (n : Int) := by omega
    obtain ⟨⟨k0, a0, bb0, nn0⟩, hx0⟩ : ∃ x, noteP p0 = x := ⟨_, rfl⟩
    rw [hx0] at hdec HB0
    unfold ntV at hdec
    simp only at hdec HB0
    generalize decE p0 = e0 at *
    have HN2 := Lib.hid hn2
    clear hP hn hn2 hz hs0 hp0 hcons hx0
    go_enter Try.func21, Try.ntmps21
    go_wp2_with fail
    refine hdec.mono ?_
    clear hdec
    rintro e9 w1 ⟨rfl, hC1⟩
    obtain ⟨f0, f1, f2, f3⟩ := four_cells w1 (.int .i64 k0) (.int .i64 a0) (.int .i64 bb0) (.int .i64 nn0) 23
    have HC := Lib.hid (hC1.alloc (.cells #[.int .i64 k0, .int .i64 a0, .int .i64 bb0, .int .i64 nn0] 23))
    clear hC1 hc0
    by_cases h1 : e0 = 0
    · have d1 : (e0 != 0) = false := by rw [bne_eq_false_iff_eq]; exact h1
      by_cases h2 : k0 = 1
      · have d2 : (k0 != 1) = false := by rw [bne_eq_false_iff_eq]; exact h2
        by_cases h3 : a0 = s
        · have d3 : (a0 != s) = false := by rw [bne_eq_false_iff_eq]; exact h3
          have HB := Lib.hid (HB0.out.trans (decide_eq_true ⟨h1, h2, h3⟩))
          clear h1 h2 h3
          go_wp2
          obtain ⟨w2, hw2⟩ : ∃ X, w1.alloc (.cells #[.int .i64 k0, .int .i64 a0, .int .i64 bb0, .int .i64 nn0] 23) = X := ⟨_, rfl⟩
          rw [hw2] at HC ⊢
          clear d1 d2 d3 f0 f1 f2 f3 hw2 b0 i1
          go_loopw [8, 9] (fun v8 v9 wr => ∃ (i : Nat) (q : List Nt) (ao : Option Addr) (L c : Nat), 1 ≤ i ∧ i ≤ n ∧ v9 = .int .i64 i ∧ v8 = .slice ao L c ∧ wr.ownsRow w.heap.size 23 4 (.slice ao L c) q.length (flatN q) ∧ q.length ≤ i ∧ takeN ps.tail = q ++ takeN (ps.drop i) ∧ Chg (fun _ => False) w wr) (fun _ v9 _ => n - (intOf v9).toNat)
          case atStart => exact ⟨1, [], none, 0, 0, Nat.le_refl _, HZ.out, rfl, rfl, World.ownsRow_nil _ _ _ _, by simp, by simp, HC.out⟩
          case round =>
            obtain ⟨i, q, qa, qL, qc, hi1, hi, rfl, rfl, hown, hql, htk, hC⟩ := hrel
            by_cases hlt : i < n
            · have hd : decide (i < n) = true := decide_eq_true hlt
              have hil : i < ps.length := by have := HN.out; omega
              obtain ⟨b2, o2, u, eu, hcu, hsu⟩ := (HP.out.fr hC).at hil
              injection eu with eu
              injection eu with eu1 eu2
              subst eu1
              subst eu2
              have hdec := r9dec_any u _ wr hsu
              rw [decV_noteP] at hdec
              have hdrop : ps.drop i = ps[i] :: ps.drop (i + 1) := List.drop_eq_getElem_cons hil
              obtain ⟨p, hp⟩ : ∃ p, ps[i] = p := ⟨_, rfl⟩
              rw [hp] at hdec hdrop
              have hk5 := dec_k (p := p)
              have htk2 : takeN (ps.drop i) = if decE p = 0 then (if (noteP p).k = 1 then [] else if (noteP p).k = 4 ∨ (noteP p).k = 5 then [noteP p] else noteP p :: takeN (ps.drop (i + 1))) else [] := by rw [hdrop]; rfl
              rw [htk2] at htk
              generalize noteP p = x at *
              generalize decE p = ex at *
              have HTK := Lib.hid htk
              have HK5 := Lib.hid hk5
              have HI := Lib.hid (show 1 ≤ i ∧ i < n ∧ q.length ≤ i ∧ n ≤ 1000000 from ⟨hi1, hlt, hql, HN2.out⟩)
              have HC2 := Lib.hid hC
              have HOW := Lib.hid hown
              have i1 : (0 : Int) ≤ (i : Int) := Int.natCast_nonneg i
              have i2 : (i : Int) < (n : Int) := Int.ofNat_lt.2 hlt
              have kw : IntKind.i64.wrap ((i : Int) + 1) = (i : Int) + 1 := IntWalk.i64_in _ (by have := HN2.out; omega)
              have HKW := Lib.hid kw
              unfold ntV at hdec
              clear hlt hil hsu hdrop hp hk5 htk2 htk hi1 hi hql hC hown kw
              go_wp2_with fail
              refine hdec.mono ?_
              clear hdec
              rintro e9 w3 ⟨rfl, hC3⟩
              obtain ⟨f0, f1, f2, f3⟩ := four_cells w3 (.int .i64 x.k) (.int .i64 x.a) (.int .i64 x.b) (.int .i64 x.n) 23
              have hC4 := hC3.alloc (.cells #[.int .i64 x.k, .int .i64 x.a, .int .i64 x.b, .int .i64 x.n] 23)
              have HOW2 := Lib.hid (hC4.owns HOW.out (fun _ _ => id))
              have HC5 := Lib.hid (HC2.out.tr hC4)
              have h3s : wr.heap.size ≤ w3.heap.size := hC3.size
              clear hC3 hC4 hcu
              by_cases h1 : ex = 0
              · have d1 : (ex != 0) = false := by rw [bne_eq_false_iff_eq]; exact h1
                by_cases h2 : x.k = 1
                · have d2 : (x.k == 1) = true := beq_iff_eq.2 h2
                  have HR := Lib.hid (show takeN ps.tail = q by rw [HTK.out, if_pos h1, if_pos h2, List.append_nil])
                  clear h1 h2
                  go_wp2
                  go_ret2
                  exact ⟨_, by rw [HB.out]; rfl, by rw [noteN_yes HB.out, HR.out]; exact HOW2.out, HC5.out⟩
                · have d2 : (x.k == 1) = false := beq_eq_false_iff_ne.2 h2
                  have hle : w.heap.size ≤ w3.heap.size + 1 := by have := HC5.out.size; simpa using this
                  have HNE := Lib.hid (show ∀ k, (Value.slice qa qL qc).ownBlock = some k → k ≠ w3.heap.size from fun k hk e => by
                    have := (HOW.out.lt k hk).2
                    omega)
                  have HLE := Lib.hid (show w.heap.size ≤ ((w3.alloc (.cells #[.int .i64 x.k, .int .i64 x.a, .int .i64 x.b, .int .i64 x.n] 23)).alloc (.cells #[.int .i64 x.k, .int .i64 x.a, .int .i64 x.b, .int .i64 x.n] 23)).heap.size by simp; omega)
                  have HFIT := Lib.hid (show q.length + 1 ≤ maxLen ∧ (q.length + 1) * 32 ≤ 140737488355328 by have := HI.out; unfold maxLen; omega)
                  have F0 := Lib.hid f0
                  clear hle h3s
                  by_cases h4 : 3 < x.k
                  · have d3 : decide (3 < x.k) = true := decide_eq_true h4
                    have HR := Lib.hid (show takeN ps.tail = q ++ [x] by rw [HTK.out, if_pos h1, if_neg h2, if_pos (by have := HK5.out h1; omega)])
                    clear h1 h2 h4
                    go_wp2_with (at_builtin; refine wpList_append_own_any rfl (.tmp 56) (.tmp 58) 40 rfl w.heap.size 23 i0 (.agg #[.int .i64 0, .int .i64 0, .int .i64 0, .int .i64 0]) 4 32 und_notes hinf hz0 hz1 hz2 rfl (by decide) (.slice qa qL qc) q.length (flatN q) rfl (HOW2.out.alloc _) (some ⟨w3.heap.size + 1, 0, none⟩) 1 1 (ntL x) rfl rfl (fun j u hu => ⟨_, rfl, by rw [Addr.add_lit, Nat.zero_add]; rw [← World.size_alloc w3 (.cells #[.int .i64 x.k, .int .i64 x.a, .int .i64 x.b, .int .i64 x.n] 23)]; exact new_cell (w3.alloc (.cells #[.int .i64 x.k, .int .i64 x.a, .int .i64 x.b, .int .i64 x.n] 23)) _ _ (by simpa [ntL] using hu)⟩) (by simp [ntL, Value.oneCell']) HFIT.out.1 HFIT.out.2 HLE.out ?_; intro v2 w5 hown2 hg2 _ hO2; obtain ⟨qa2, qL2, qc2, rfl, _⟩ := owns_name hown2; have hM := nt_more HC5.out HOW2.out HNE.out F0.out hg2 hown2; have f0' := hM.1)
                    go_ret2
                    exact ⟨_, by rw [HB.out]; rfl, by rw [noteN_yes HB.out, HR.out]; exact hM.2.1, hM.2.2⟩
                  · have d3 : decide (3 < x.k) = false := decide_eq_false h4
                    have HR := Lib.hid (show takeN ps.tail = (q ++ [x]) ++ takeN (ps.drop (i + 1)) by rw [HTK.out, if_pos h1, if_neg h2, if_neg (by omega), List.append_assoc]; rfl)
                    have hkw := HKW.out
                    clear h1 h2 h4
                    go_wp2_with (at_builtin; refine wpList_append_own_any rfl (.tmp 56) (.tmp 58) 40 rfl w.heap.size 23 i0 (.agg #[.int .i64 0, .int .i64 0, .int .i64 0, .int .i64 0]) 4 32 und_notes hinf hz0 hz1 hz2 rfl (by decide) (.slice qa qL qc) q.length (flatN q) rfl (HOW2.out.alloc _) (some ⟨w3.heap.size + 1, 0, none⟩) 1 1 (ntL x) rfl rfl (fun j u hu => ⟨_, rfl, by rw [Addr.add_lit, Nat.zero_add]; rw [← World.size_alloc w3 (.cells #[.int .i64 x.k, .int .i64 x.a, .int .i64 x.b, .int .i64 x.n] 23)]; exact new_cell (w3.alloc (.cells #[.int .i64 x.k, .int .i64 x.a, .int .i64 x.b, .int .i64 x.n] 23)) _ _ (by simpa [ntL] using hu)⟩) (by simp [ntL, Value.oneCell']) HFIT.out.1 HFIT.out.2 HLE.out ?_; intro v2 w5 hown2 hg2 _ hO2; obtain ⟨qa2, qL2, qc2, rfl, _⟩ := owns_name hown2; have hM := nt_more HC5.out HOW2.out HNE.out F0.out hg2 hown2; have f0' := hM.1)
                    go_roundw
                    case rel => exact ⟨i + 1, q ++ [x], _, _, _, by omega, HI.out.2.1, congrArg (Value.int IntKind.i64) (Int.natCast_succ i).symm, rfl, hM.2.1, by rw [List.length_append]; have := HI.out.2.2.1; simp; omega, HR.out, hM.2.2⟩
                    case measure => exact fit_meas i n HI.out.2.1
              · have d1 : (ex != 0) = true := bne_iff_ne.2 h1
                have HR := Lib.hid (show takeN ps.tail = q by rw [HTK.out, if_neg h1, List.append_nil])
                clear h1
                go_wp2
                go_ret2
                exact ⟨_, by rw [HB.out]; rfl, by rw [noteN_yes HB.out, HR.out]; exact HOW2.out, HC5.out⟩
            · obtain rfl : i = n := by omega
              have hd : decide (i < i) = false := decide_eq_false hlt
              have HR := Lib.hid (show takeN ps.tail = q by rw [htk, List.drop_eq_nil_of_le (by have := HN.out; omega)]; simp [takeN])
              have HO := Lib.hid hown
              have HC2 := Lib.hid hC
              clear hi hi1 hlt hown hql htk hC
              go_wp2
              go_ret2
              exact ⟨_, by rw [HB.out]; rfl, by rw [noteN_yes HB.out, HR.out]; exact HO.out, HC2.out⟩
        · have d3 : (a0 != s) = true := bne_iff_ne.2 h3
          have HB := Lib.hid (HB0.out.trans (decide_eq_false (fun h => h3 h.2.2)))
          clear h1 h2 h3
          go_wp2
          go_ret2
          exact ⟨_, by rw [HB.out]; rfl, by rw [noteN_no HB.out]; exact World.ownsRow_nil _ _ _ _, HC.out⟩
      · have d2 : (k0 != 1) = true := bne_iff_ne.2 h2
        have HB := Lib.hid (HB0.out.trans (decide_eq_false (fun h => h2 h.2.1)))
        clear h1 h2
        go_wp2
        go_ret2
        exact ⟨_, by rw [HB.out]; rfl, by rw [noteN_no HB.out]; exact World.ownsRow_nil _ _ _ _, HC.out⟩
    · have d1 : (e0 != 0) = true := bne_iff_ne.2 h1
      have HB := Lib.hid (HB0.out.trans (decide_eq_false (fun h => h1 h.1)))
      clear h1
      go_wp2
      go_ret2
      exact ⟨_, by rw [HB.out]; rfl, by rw [noteN_no HB.out]; exact World.ownsRow_nil _ _ _ _, HC.out⟩
end Go.Proofs.Ytpiboaoifcajdaa
