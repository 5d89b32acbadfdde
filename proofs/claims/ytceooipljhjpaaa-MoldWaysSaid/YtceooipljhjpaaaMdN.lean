/- mold: the spans of a list. -/
import Derived.Test.YtceooipljhjpaaaMdM
import Derived.Test.YtceooipljhjpaaaRnd
namespace Go.Proofs.Ytceooipljhjpaaa
open Go.RowKit Go.Shelf
attribute [local go_sem] Oper.semAt_some

def dropV (h n : Int) : Spn := if n < 0 then ⟨h, max 0 (IntKind.i64.wrap (h + n)), 0⟩ else ⟨h, max 0 (IntKind.i64.wrap (h - n)), min h n⟩
theorem takenV_any (m n : Int) (w : World) (hh : 0 ≤ m ∧ m ≤ 4096) : Calls Try.prog 65 #[.int .i64 m, .int .i64 n] w (GaveSp w (takeF m n)) := by
  by_cases h0 : n < 0
  · have d1 : decide (n < 0) = true := decide_eq_true h0
    by_cases h2 : -4096 ≤ n
    · have d2 : decide ((-4096 : Int) ≤ n) = true := decide_eq_true h2
      have w1 : IntKind.i64.wrap (-n) = -n := IntWalk.i64_in _ (by omega)
      have w2 : IntKind.i64.wrap (m + n) = m + n := IntWalk.i64_in _ (by omega)
      have HR := Lib.hid (show takeF m n = ⟨m, -n, m + n⟩ from if_pos ⟨h0, h2⟩)
      clear h0 hh h2
      go_enter Try.func65, Try.ntmps65
      go_wp2
      simp [bodyPost, results, Try.results65, go_sem]
      rw [HR.out]
      exact ⟨rfl, (Chg.refl _ _).alloc _⟩
    · have d2 : decide ((-4096 : Int) ≤ n) = false := decide_eq_false h2
      have HR := Lib.hid (show takeF m n = ⟨m, n, 0⟩ from if_neg (fun q => h2 q.2))
      clear h0 hh h2
      go_enter Try.func65, Try.ntmps65
      go_wp2
      simp [bodyPost, results, Try.results65, go_sem]
      rw [HR.out]
      exact ⟨rfl, (Chg.refl _ _).alloc _⟩
  · have d1 : decide (n < 0) = false := decide_eq_false h0
    have HR := Lib.hid (show takeF m n = ⟨m, n, 0⟩ from if_neg (fun q => h0 q.1))
    clear h0 hh
    go_enter Try.func65, Try.ntmps65
    go_wp2
    simp [bodyPost, results, Try.results65, go_sem]
    rw [HR.out]
    exact ⟨rfl, (Chg.refl _ _).alloc _⟩
theorem droppedV_any (m n : Int) (w : World) (_ : 0 ≤ m ∧ m ≤ 4096) : Calls Try.prog 67 #[.int .i64 m, .int .i64 n] w (GaveSp w (dropV m n)) := by
  by_cases h0 : n < 0
  · have d1 : decide (n < 0) = true := decide_eq_true h0
    obtain ⟨r, w2⟩ : ∃ r, IntKind.i64.wrap (m + n) = r := ⟨_, rfl⟩
    have HR := Lib.hid (show dropV m n = ⟨m, max 0 r, 0⟩ by rw [← w2]; exact if_pos h0)
    clear h0
    go_enter Try.func67, Try.ntmps67
    go_wp2
    all_goals
      simp [bodyPost, results, Try.results67, go_sem]
      rw [HR.out]
      exact ⟨sp_eq (by omega) (by omega) (by omega), (Chg.refl _ _).alloc _⟩
  · have d1 : decide (n < 0) = false := decide_eq_false h0
    obtain ⟨r, w2⟩ : ∃ r, IntKind.i64.wrap (m - n) = r := ⟨_, rfl⟩
    have HR := Lib.hid (show dropV m n = ⟨m, max 0 r, min m n⟩ by rw [← w2]; exact if_neg h0)
    clear h0
    go_enter Try.func67, Try.ntmps67
    go_wp2
    all_goals
      simp [bodyPost, results, Try.results67, go_sem]
      rw [HR.out]
      exact ⟨sp_eq (by omega) (by omega) (by omega), (Chg.refl _ _).alloc _⟩
theorem info_span : (Try.prog.info? 117).map (fun i => (i.zero, i.size, i.bytes)) = some (some (.agg #[.int .i64 0, .int .i64 0, .int .i64 0]), 3, 24) := by kernel_rfl

def spS (s : List Int) : List Int := if s = [] then [1] else s
def spN (L : Ar) (s : List Int) : Int := if shB s then (if lstE L = 0 then (if L.e.length = (spS s).length then 0 else 4) else lstE L) else 110
def spF (kf : Int → Int → Spn) (L : Ar) (s : List Int) : List Spn := if spN L s = 0 then List.zipWith kf (spS s) (rsS L) else []
def OwnS (w : World) (base : Nat) (v : Value) (l : List Spn) : Prop := w.ownsRow base 117 3 v l.length (flatS l)
def GaveSps (w : World) (n : Int) (l : List Spn) (e : Ending) (w' : World) : Prop := ∃ v, e = .returned (.tuple #[v, .int .i64 n]) ∧ OwnS w' w.heap.size v l ∧ Chg (fun _ => False) w w'
theorem OwnS.nil (w : World) (base : Nat) : OwnS w base (.slice none 0 0) [] := World.ownsRow_nil w base 117 3
theorem OwnS.chg {S : Nat → Prop} {w w' : World} {base : Nat} {v : Value} {xs : List Spn} (h : OwnS w base v xs) (hC : Chg S w w') (hn : ∀ k, v.ownBlock = some k → ¬ S k) : OwnS w' base v xs := hC.owns h hn
theorem OwnS.fr {w w' : World} {base : Nat} {v : Value} {xs : List Spn} (h : OwnS w base v xs) (hC : Chg (fun _ => False) w w') : OwnS w' base v xs := hC.owns h (fun _ _ => id)
theorem OwnS.mono {w : World} {base b2 : Nat} {v : Value} {xs : List Spn} (h : OwnS w base v xs) (hb : b2 ≤ base) : OwnS w b2 v xs := by
  refine ⟨h.1, ?_⟩
  rcases h.2 with h2 | ⟨g, cap, cur, e, hg, r⟩
  · exact .inl h2
  · exact .inr ⟨g, cap, cur, e, Nat.le_trans hb hg, r⟩
theorem OwnS.lt {w : World} {base : Nat} {v : Value} {xs : List Spn} (h : OwnS w base v xs) : ∀ k, v.ownBlock = some k → base ≤ k ∧ k < w.heap.size := fun k hk => World.ownsRow.lt h k hk
/-- What is collected so far: spans, in a box. -/
def ColS (b base : Nat) (kf : Int → Int → Spn) (S0 : List Int) (w1 : World) (pre : List Int) (W : World) : Prop := (∃ v, W.cell? ⟨b, 0, none⟩ = some v ∧ W.frozen? ⟨b, 0, none⟩ = false ∧ OwnS W base v (List.zipWith kf S0 pre)) ∧ Chg (fun q => q = b) w1 W
theorem ColS.own (b base : Nat) (kf : Int → Int → Spn) (S0 : List Int) (w1 : World) (N : Nat) (h1 : w1.heap.size ≤ N) : OwnFrom N (ColS b base kf S0 w1) := by
  rintro pre A C row ⟨⟨v, h, hf, ho⟩, hC⟩ hg hr
  exact ⟨⟨v, cell_kept h hg (fun r e => (hr r e).2), (frozen_kept h hg (fun r e => (hr r e).2)).trans hf, owns_kept ho hg (fun r e => (hr r e).2)⟩, hC.grown hg (fun k e => .inr (Nat.le_trans h1 (hr k e).1))⟩
theorem ColS.abides (b base : Nat) (kf : Int → Int → Spn) (S0 : List Int) (w1 : World) : AbidesT (fun _ => False) (ColS b base kf S0 w1) := by
  rintro pre A C ⟨⟨v, h, hf, ho⟩, hC⟩ hD
  exact ⟨⟨v, hD.cell h id, hD.frozen h hf id, ho.fr hD⟩, hC.trans hD (fun _ _ h => h) (fun _ _ h => h.elim)⟩
theorem ownS_ne {W : World} {base D : Nat} {v : Value} {xs : List Spn} {o : Obj} (h : OwnS W base v xs) (hK : W.heap[D]? = some o) (ho : o.isCells = false) : ∀ q, v.ownBlock = some q → q ≠ D := by
  rintro q hq rfl
  rcases h.2 with ⟨rfl, _⟩ | ⟨g, cap, cur, rfl, hb, hgg, r⟩
  · simp [Value.ownBlock] at hq
  · have : g = q := by simpa [Value.ownBlock] using hq
    subst this
    rw [hgg] at hK
    cases hK
    simp [Obj.isCells] at ho
theorem sp_leave {w W : World} {D base : Nat} {ys : List Spn} {v : Value} {t : Array Value} (hK : W.heap[D]? = some (.deferred (some []))) (hD : w.heap.size ≤ D) (hC : Chg (fun _ => False) w W) (hb : w.heap.size ≤ base) (ho : OwnS W base v ys) (h6 : t[6]?.getD undef = v) (h7 : t[7]?.getD undef = .int .i64 0) :
    bodyPostM Fence.wide 8 Try.prog Try.f64 (GaveSps w 0 ys) .ret { tmps := t, defers := [{ target := .collected D, args := #[] }] } W := by
  refine leave_mark (v := .tuple #[v, .int .i64 0]) hK ?_ ⟨v, rfl, ?_, hC.putObj (.inr hD) _⟩
  · simp [results, Try.f64, go_sem, h6, h7]
  · exact (ho.chg ((Chg.refl (fun q => q = D) W).putObj (.inl rfl) _) (fun q hq e => ownS_ne ho hK rfl q hq e)).mono hb
theorem sp_no {w W : World} {n : Int} {t : Array Value} (hC : Chg (fun _ => False) w W) (h6 : t[6]?.getD undef = .slice none 0 0) (h7 : t[7]?.getD undef = .int .i64 n) :
    bodyPostM Fence.wide 8 Try.prog Try.f64 (GaveSps w n []) .ret { tmps := t, defers := [] } W := by
  refine leave_plain (v := .tuple #[.slice none 0 0, .int .i64 n]) ?_ ⟨_, rfl, OwnS.nil _ _, hC⟩
  simp [results, Try.f64, go_sem, h6, h7]
theorem keeps_chg {W W' : World} (h : Chg (fun _ => False) W W') : KeepsOthers W W' := ⟨h.size, fun k _ hk _ => (h.block k (Array.getElem?_eq_some_iff.1 hk).1 id).trans hk⟩
theorem flatS_snoc (l : List Spn) (x : Spn) : flatS (l ++ [x]) = flatS l ++ spL x := by rw [flatS_append, flatS_one]
theorem zip_snoc (kf : Int → Int → Spn) (S0 pre : List Int) (x : Int) (h : pre.length < S0.length) : List.zipWith kf S0 (pre ++ [x]) = List.zipWith kf S0 pre ++ [kf S0[pre.length] x] := by
  induction S0 generalizing pre with
  | nil => simp at h
  | cons y r ih =>
    cases pre with
    | nil => simp
    | cons p q => simp only [List.cons_append, List.zipWith_cons_cons, List.length_cons, List.getElem_cons_succ]; rw [ih q (by simpa using h)]
theorem ls_one {w : World} {b : Nat} {x : Int} (h : w.cell? ⟨b, 0, none⟩ = some (.int .i64 x)) : Ls w (.slice (some ⟨b, 0, none⟩) 1 1) [x] := ⟨⟨_, 1, rfl, by simp, by decide, fun e => by cases e⟩, fun j u hu => by
  cases j with
  | zero => cases hu; exact ⟨b, 0, 1, rfl, h⟩
  | succ j => simp at hu⟩
set_option maxRecDepth 100000 in
set_option maxHeartbeats 2000000 in
theorem spans_any (gf : Nat) (kf : Int → Int → Spn) (u v : Value) (L : Ar) (s : List Int) (w : World) (hL : Ara w u L) (hS : Ls w v s) (hle : L.e.length ≤ 1000000)
    (hk : ∀ m n w', 0 ≤ m ∧ m ≤ 4096 → Calls Try.prog gf #[.int .i64 m, .int .i64 n] w' (GaveSp w' (kf m n))) (eg : ∀ args w, (callFunc gf args).run Try.prog w = .ok (.enter gf args) w) :
    Calls Try.prog 64 #[u, v, .func (.func gf) #[] #[]] w (GaveSps w (spN L s) (spF kf L s)) := by
  have hL' := hL
  obtain ⟨k, t, e⟩ := L
  obtain ⟨vt, ve, rfl, ht, he⟩ := hL
  simp only at ht he hle
  obtain ⟨ta, ct, rfl, _⟩ := ht.form
  obtain ⟨ae, ce, rfl, _⟩ := he.form
  obtain ⟨as_, cs, rfl, _⟩ := hS.form
  obtain ⟨i0, hi, hz0, hz1, hz2⟩ := info_parts info_span
  have hC0 := (((Chg.refl (fun _ => False) w).alloc (.cells #[.int .i64 k, .slice ta t.length ct, .slice ae e.length ce] 25)).alloc (.cells #[.slice as_ s.length cs] 22)).alloc (.cells #[.func (.func gf) #[] #[]] 87)
  have hK1 := ((Chg.refl (fun _ => False) (w.alloc (.cells #[.int .i64 k, .slice ta t.length ct, .slice ae e.length ce] 25))).alloc (.cells #[.slice as_ s.length cs] 22)).alloc (.cells #[.func (.func gf) #[] #[]] 87)
  have hK2 := (Chg.refl (fun _ => False) ((w.alloc (.cells #[.int .i64 k, .slice ta t.length ct, .slice ae e.length ce] 25)).alloc (.cells #[.slice as_ s.length cs] 22))).alloc (.cells #[.func (.func gf) #[] #[]] 87)
  obtain ⟨y0, y1, y2⟩ := cell_two w (.int .i64 k) (.slice ta t.length ct) (.slice ae e.length ce) 25
  have sb := new_cell (w.alloc (.cells #[.int .i64 k, .slice ta t.length ct, .slice ae e.length ce] 25)) #[.slice as_ s.length cs] 22 (i := 0) rfl
  have sf := new_frozen (w.alloc (.cells #[.int .i64 k, .slice ta t.length ct, .slice ae e.length ce] 25)) #[.slice as_ s.length cs] 22 0
  have kb := new_cell ((w.alloc (.cells #[.int .i64 k, .slice ta t.length ct, .slice ae e.length ce] 25)).alloc (.cells #[.slice as_ s.length cs] 22)) #[.func (.func gf) #[] #[]] 87 (i := 0) rfl
  rw [World.size_alloc] at sb sf
  rw [World.size_alloc, World.size_alloc] at kb
  replace sf := hK2.frozen sb sf id
  replace y0 := hK1.cell y0 id
  replace y1 := hK1.cell y1 id
  replace y2 := hK1.cell y2 id
  replace sb := hK2.cell sb id
  have hls := mlist_any _ ⟨k, t, e⟩ _ (hL'.fr hC0) hle
  unfold GaveLE at hls
  have HC := Lib.hid hC0
  have HS := Lib.hid hS
  have HK := Lib.hid hk
  have HLE := Lib.hid hle
  clear hK1 hK2 hL' ht he hS hC0 hk hle
  have HN := Lib.hid (show spN ⟨k, t, e⟩ s = if shB s then (if lstE ⟨k, t, e⟩ = 0 then (if e.length = (spS s).length then 0 else 4) else lstE ⟨k, t, e⟩) else 110 from rfl)
  have HF := Lib.hid (show spF kf ⟨k, t, e⟩ s = if spN ⟨k, t, e⟩ s = 0 then List.zipWith kf (spS s) (e.map lenC) else [] from rfl)
  have HLL := Lib.hid (show lstE ⟨k, t, e⟩ = 0 → lstL ⟨k, t, e⟩ = e from fun h => by unfold lstL; rw [if_pos h])
  obtain ⟨F, hF⟩ : ∃ F, spF kf ⟨k, t, e⟩ s = F := ⟨_, rfl⟩
  obtain ⟨N, hN⟩ : ∃ N, spN ⟨k, t, e⟩ s = N := ⟨_, rfl⟩
  obtain ⟨M, hM⟩ : ∃ M, lstE ⟨k, t, e⟩ = M := ⟨_, rfl⟩
  obtain ⟨X, hX⟩ : ∃ X, lstL ⟨k, t, e⟩ = X := ⟨_, rfl⟩
  rw [hF, hN] at HF ⊢
  rw [hN, hM] at HN
  rw [hM, hX] at HLL hls
  clear hF hN hM hX
  (refine calls_of_wp_marks Try.func64 rfl ?_; simp only [Try.ntmps64, List.size_toArray, List.length_cons, List.length_nil, Nat.reduceAdd, Nat.reduceSub, Array.replicate_succ, Array.replicate_zero, List.push_toArray, List.append_toArray, List.nil_append, List.cons_append])
  go_wp2_with fail
  refine hls.mono ?_
  clear hls y0 y1 y2
  rintro e9 w3 ⟨v1, rfl, ho1, hC1⟩
  obtain ⟨a1, c1, rfl⟩ := own_name ho1
  replace sf := hC1.frozen sb sf id
  replace sb := hC1.cell sb id
  replace kb := hC1.cell kb id
  replace HC := Lib.hid (HC.out.tr hC1)
  have hc := count_any _ s w3 (HS.out.fr HC.out)
  unfold GaveC at hc
  have HO1 := Lib.hid ho1.ls
  have HOW := Lib.hid (show ∀ q, (Value.slice a1 X.length c1).ownBlock = some q → w.heap.size + 1 < q from fun q hq => by have := (ho1.lt q hq).1; simp at this; omega)
  clear hC1 ho1
  go_wp2_with fail
  refine hc.mono ?_
  clear hc
  rintro e9 w3 ⟨rfl, rfl⟩
  cases hsh : shB s with
  | false =>
    have hN := HN.out
    rw [hsh] at hN
    have hF := HF.out
    rw [hN] at hF
    subst hN hF
    rw [cntE_not hsh]
    clear hsh
    go_wp2
    exact sp_no HC.out rfl rfl
  | true =>
    rw [cntE_ok hsh]
    have HBD := Lib.hid (shB_iff.1 hsh).2.1
    by_cases hM0 : M = 0
    · subst hM0
      have hXe := HLL.out rfl
      subst hXe
      by_cases hs0 : s = []
      · subst hs0
        have hS0 : spS [] = [1] := rfl
        rw [hS0] at HN HF
        by_cases hln : X.length = [(1 : Int)].length
        · have hN := HN.out
          rw [hsh, if_pos rfl, if_pos rfl, if_pos hln] at hN
          have hF := HF.out
          rw [hN, if_pos rfl] at hF
          subst hN hF
          have b1 : ((X.length : Int) != 1) = false := bne_eq_false_iff_eq.2 (by have : X.length = 1 := hln; omega)
          have HLN := Lib.hid hln
          clear hln HBD hS0
          have hCa := (Chg.refl (fun _ => False) w3).alloc (.cells #[.int .i64 1] 3)
          have hCb := chg_cell (w3.alloc (.cells #[.int .i64 1] 3)) (w.heap.size + 1) 0 (.slice (some ⟨w3.heap.size, 0, none⟩) 1 1)
          have hsz3 : w.heap.size + 1 + 1 < w3.heap.size := cell_lt kb
          have o1 := new_cell w3 #[.int .i64 1] 3 (i := 0) rfl
          obtain ⟨w4, hw4⟩ : ∃ w4, (w3.alloc (.cells #[.int .i64 1] 3)).setCell ⟨w.heap.size + 1, 0, none⟩ (.slice (some ⟨w3.heap.size, 0, none⟩) 1 1) = w4 := ⟨_, rfl⟩
          have sb4 : w4.cell? ⟨w.heap.size + 1, 0, none⟩ = some (.slice (some ⟨w3.heap.size, 0, none⟩) 1 1) := by rw [← hw4]; exact World.cell?_setCell_same' _ _ _ (by rw [hCa.cell sb id]; rfl)
          rw [hw4] at hCb
          have hL1 : Ls w4 (.slice (some ⟨w3.heap.size, 0, none⟩) 1 1) [1] := ls_one (hCb.cell o1 (fun e => by have e : w3.heap.size = _ := e; omega))
          have hLX : Ls w4 (.slice a1 X.length c1) X := (HO1.out.fr hCa).chg hCb (fun q hq e => by have := HOW.out q hq; omega)
          have kb4 := hCb.cell (hCa.cell kb id) (fun e => by have e : w.heap.size + 1 + 1 = _ := e; omega)
          have HC4 := Lib.hid (HC.out.trans (hCa.trans hCb (fun _ _ h => h.elim) (fun _ _ h => h) : Chg (fun q => q = w.heap.size + 1) w3 w4) (fun _ _ h => h) (fun i hi e => by omega))
          have sb3 := hCa.cell sb id
          have sf3 := hCa.frozen sb sf id
          have HB1 := Lib.hid (show ∀ l ∈ [(1 : Int)], 0 ≤ l ∧ l ≤ 4096 from fun l hl => by rw [List.mem_singleton] at hl; subst hl; decide)
          have sb0 := sb
          clear HC hCa hCb o1 sb kb
          have sb := sb4
          have kb := kb4
          have HC := HC4
          clear sb4 kb4 HC4
          have ob := new_cell (w4) #[.slice none 0 0] 84 (i := 0) rfl
          have ofz := new_frozen (w4) #[.slice none 0 0] 84 0
          have hC5 := (Chg.refl (fun _ => False) (w4)).alloc (.cells #[.slice none 0 0] 84)
          obtain ⟨w5, hw5⟩ : ∃ w5, World.alloc (w4) (.cells #[.slice none 0 0] 84) = w5 := ⟨_, rfl⟩
          have hz5 : w5.heap.size = (w4).heap.size + 1 := by rw [← hw5]; simp
          have hle1 := lengths_any a1 X.length c1 w5
          rw [hw5] at ob ofz hC5
          go_wp2_with fail
          refine hle1.mono ?_
          clear hle1
          rintro e9 w6 ⟨rfl, hw6⟩
          have hC6 : Chg (fun _ => False) w5 w6 := by rw [hw6]; exact (Chg.refl _ w5).alloc _
          have r6 : w6.cell? ⟨(w4).heap.size + 1, 0, none⟩ = some (.slice a1 X.length c1) := by rw [← hz5, hw6]; exact new_cell w5 _ _ rfl
          clear hw6 hw5
          replace ofz := hC6.frozen ob ofz id
          replace ob := hC6.cell ob id
          have hC56 := hC5.tr hC6
          have hob : (w4).heap.size < w6.heap.size := cell_lt ob
          have sb6 := hC56.cell sb id
          have kb6 := hC56.cell kb id
          have hszW : w.heap.size + 1 + 1 < (w4).heap.size := cell_lt kb
          have HS6 := Lib.hid (hL1.fr hC56)
          have HHC6 := Lib.hid (HC.out.tr hC56)
          go_wp2
          refine wp_rangeT (gf := 97) (lb := #[.pointer (some ⟨(w4).heap.size + 1, 0, none⟩)]) (R := fun q => q < (w4).heap.size) (T := fun _ => False) rfl (enters_of Try.func97 (by kernel_rfl) rfl) (fun q h => h.elim) (fun q hq => by have := hC56.size; omega)
            (lengths_seq ((w4).heap.size + 1) (w4).heap.size a1 X.length c1 X rfl HLE.out (w4) w6 rfl hLX hC56.size (fun q hq => hC56.block q hq id) r6) (fun _ => rfl)
            (ColS (w4).heap.size w6.heap.size kf [(1 : Int)] w6) (fun _ _ _ => False) (ColS.own _ _ _ _ _ _ (Nat.le_refl _)) (fun c => fun _ _ _ _ h => h.elim) (ColS.abides _ _ _ _ _) (fun c => fun _ _ _ h => h.elim) ⟨⟨_, ob, ofz, by rw [List.zipWith_nil_right]; exact OwnS.nil _ _⟩, Chg.refl _ _⟩ ?q1b ?assignb ?bodyb ?doneb ?stopb
          case assignb =>
            intro l x W K hK
            simp only [encL]
            gi_wp2
            exact hK
          case bodyb =>
            rintro l pre x W ⟨⟨v, c2, f2, hown⟩, hC⟩ hlen
            obtain ⟨ao, L, cp, rfl, hL⟩ := owns_name (show World.ownsRow _ _ _ _ _ _ _ from hown)
            have hj : pre.length < List.length ([(1 : Int)]) := by rw [← HLN.out]; exact hlen
            have hLp : L = pre.length := by rw [hL.out, List.length_zipWith]; omega
            subst hLp
            obtain ⟨bb, o, cc, e1, hx0⟩ := (hL1).at hj
            have hbb := cell_lt hx0
            replace e1 : _ = Value.slice (some ⟨bb, o, none⟩) 1 cc := e1
            have hm := HB1.out _ (List.getElem_mem hj)
            have hown3 := hown
            obtain ⟨m, hmm⟩ : ∃ m, ([(1 : Int)])[pre.length] = m := ⟨_, rfl⟩
            rw [hmm] at hx0 hm
            have HM := Lib.hid hmm
            clear hmm
            have q1 : W.cell? ⟨bb, o + pre.length, none⟩ = some (.int .i64 m) := hC.cell (hC56.cell hx0 id) (fun e => by have e : bb = _ := e; omega)
            have q2 : W.cell? ⟨w.heap.size + 1, 0, none⟩ = some (.slice (some ⟨bb, o, none⟩) 1 cc) := by rw [← e1]; exact hC.cell (hC56.cell sb id) (fun e => by have e : w.heap.size + 1 = _ := e; omega)
            have q3 : W.cell? ⟨w.heap.size + 1 + 1, 0, none⟩ = some (.func (.func gf) #[] #[]) := hC.cell (hC56.cell kb id) (fun e => by have e : w.heap.size + 1 + 1 = _ := e; omega)
            have hkc := HK.out m x W.drew hm
            obtain ⟨⟨p1, p2, p3⟩, hY⟩ : ∃ Y, kf m x = Y := ⟨_, rfl⟩
            rw [hY] at hkc
            have HY := Lib.hid hY
            clear hY
            unfold GaveSp spV at hkc
            simp only at hkc
            have HO := Lib.hid hown
            have HCW := Lib.hid hC
            have HBL := Lib.hid hlen
            have hi0 : (0 : Int) ≤ (pre.length : Int) := by omega
            have hi1 : (pre.length : Int) < ((1 : Nat) : Int) := by have hj2 : pre.length < 1 := hj; omega
            have hbs : bb < W.heap.size := cell_lt q1
            have hi2 : (pre.length : Int) < 1 := by have hj2 : pre.length < 1 := hj; omega
            clear hown hC hlen hm sb kb sf sb6 kb6 r6 ob ofz hx0 hL e1
            gi_wp2_with fail
            refine in_round_held (S := fun w' => w'.cell? ⟨w.heap.size + 1, 0, none⟩ = some (.slice (some ⟨bb, o, none⟩) 1 cc) ∧ w'.cell? ⟨w.heap.size + 1 + 1, 0, none⟩ = some (.func (.func gf) #[] #[]) ∧ w'.cell? ⟨bb, o + pre.length, none⟩ = some (.int .i64 m)) (by kernel_rfl) (by kernel_rfl) ⟨q2, q3, q1⟩ (fun hHeld => ?_)
            have hSW := hHeld
            refine' wpAnyH_take (i := 1) (oi := _) (v := .func (.func gf) #[] #[]) ?hib1 (by kernel_rfl) (by kernel_rfl) (by kernel_rfl) ?hqb1 (Or.inl ⟨?hwb1, fun w hSw => ?hyb1⟩) hHeld ?hkb1
            case hib1 => (simp only [List.getElem?_toArray, List.getElem?_cons_succ, List.getElem?_cons_zero]; rfl)
            case hqb1 => exact fun _ _ _ h => h
            case hwb1 => rfl
            case hyb1 => first | (go_simp; done) | (go_simp; with_reducible rfl)
            simp only [Act.put, List.setIfInBounds_toArray, List.set_cons_zero, List.set_cons_succ]
            refine' wpAnyH_take (i := 2) (oi := _) (v := .slice (some ⟨bb, o, none⟩) 1 cc) ?hib2 (by kernel_rfl) (by kernel_rfl) (by kernel_rfl) ?hqb2 (Or.inl ⟨?hwb2, fun w hSw => ?hyb2⟩) hHeld ?hkb2
            case hib2 => (simp only [List.getElem?_toArray, List.getElem?_cons_succ, List.getElem?_cons_zero]; rfl)
            case hqb2 => exact fun _ _ _ h => h
            case hwb2 => rfl
            case hyb2 => first | (go_simp; done) | (go_simp; with_reducible rfl)
            simp only [Act.put, List.setIfInBounds_toArray, List.set_cons_zero, List.set_cons_succ]
            refine' wpAnyH_take (i := 7) (oi := _) (v := .int .i64 x) ?hib7 (by kernel_rfl) (by kernel_rfl) (by kernel_rfl) ?hqb7 (Or.inl ⟨?hwb7, fun w hSw => ?hyb7⟩) hHeld ?hkb7
            case hib7 => (simp only [List.getElem?_toArray, List.getElem?_cons_succ, List.getElem?_cons_zero]; rfl)
            case hqb7 => exact fun _ _ _ h => h
            case hwb7 => rfl
            case hyb7 => first | (go_simp; done) | (go_simp; with_reducible rfl)
            simp only [Act.put, List.setIfInBounds_toArray, List.set_cons_zero, List.set_cons_succ]
            refine wpAnyH_ready (rs := [0, 3]) (by kernel_rfl) (by simp) ?_
            refine AllReadyH.cons rfl (fun K hK => ?_) (AllReadyH.cons rfl (fun K hK => ?_) AllReadyH.nil)
            · go_simp
              refine hK.out _ _ ⟨q2, q3, q1⟩ (fun hHeld => ?_)
              clear hK K
              refine wpAnyH_ready (rs := [3]) (by kernel_rfl) (by simp) ?_
              refine AllReadyH.cons rfl (fun K hK => ?_) AllReadyH.nil
              go_simp
              refine hK.out _ _ ⟨q2, q3, q1⟩ (fun hHeld => ?_)
              clear hK K
              refine' wpAnyH_take (i := 4) (oi := _) (v := .int .i64 pre.length) ?hibA4 (by kernel_rfl) (by kernel_rfl) (by kernel_rfl) ?hqbA4 (Or.inl ⟨?hwbA4, fun w hSw => ?hybA4⟩) hHeld ?hkbA4
              case hibA4 => (simp only [List.getElem?_toArray, List.getElem?_cons_succ, List.getElem?_cons_zero]; rfl)
              case hqbA4 => exact fun _ _ _ h => h
              case hwbA4 => rfl
              case hybA4 => first | (go_simp; done) | (go_simp; with_reducible rfl)
              simp only [Act.put, List.setIfInBounds_toArray, List.set_cons_zero, List.set_cons_succ]
              refine' wpAnyH_take (i := 5) (oi := _) (v := .pointer (some ⟨bb, o + pre.length, none⟩)) ?hibA5 (by kernel_rfl) (by kernel_rfl) (by kernel_rfl) ?hqbA5 (Or.inl ⟨?hwbA5, fun w hSw => ?hybA5⟩) hHeld ?hkbA5
              case hibA5 => (simp only [List.getElem?_toArray, List.getElem?_cons_succ, List.getElem?_cons_zero]; rfl)
              case hqbA5 => exact fun _ _ _ h => h
              case hwbA5 => rfl
              case hybA5 => first | (go_simp; done) | (go_simp; with_reducible rfl)
              simp only [Act.put, List.setIfInBounds_toArray, List.set_cons_zero, List.set_cons_succ]
              refine' wpAnyH_take (i := 6) (oi := _) (v := .int .i64 m) ?hibA6 (by kernel_rfl) (by kernel_rfl) (by kernel_rfl) ?hqbA6 (Or.inl ⟨?hwbA6, fun w hSw => ?hybA6⟩) hHeld ?hkbA6
              case hibA6 => (simp only [List.getElem?_toArray, List.getElem?_cons_succ, List.getElem?_cons_zero]; rfl)
              case hqbA6 => exact fun _ _ _ h => h
              case hwbA6 => rfl
              case hybA6 => first | (go_simp; done) | (go_simp; with_reducible rfl)
              simp only [Act.put, List.setIfInBounds_toArray, List.set_cons_zero, List.set_cons_succ]
              refine wpAnyH_ready (rs := [8]) (by kernel_rfl) (by simp) ?_
              refine AllReadyH.cons rfl (fun K hK => ?_) AllReadyH.nil
              go_simp
              refine hkc.mono ?_
              clear hkc
              rintro e9 W3 ⟨rfl, hC3⟩
              have h3 : Chg (fun _ => False) W W3 := ((Chg.refl _ W).drew).tr hC3
              have d3 := h3.cell c2 id
              refine hK.out _ _ ⟨h3.cell q2 id, h3.cell q3 id, h3.cell q1 id⟩ (fun hHeld => ?_)
              clear hK K
              refine wpAnyH_ready (rs := [9]) (by kernel_rfl) (by simp) ?_
              refine AllReadyH.cons rfl (fun K hK => ?_) AllReadyH.nil
              go_simp
              have h4 := h3.alloc (.cells #[.int .i64 p1, .int .i64 p2, .int .i64 p3] 117)
              have d4 := h4.cell c2 id
              refine hK.out _ _ ⟨h4.cell q2 id, h4.cell q3 id, h4.cell q1 id⟩ (fun hHeld => ?_)
              clear hK K
              refine wpAnyH_ready (rs := [10]) (by kernel_rfl) (by simp) ?_
              refine AllReadyH.cons rfl (fun K hK => ?_) AllReadyH.nil
              refine step_append_own rfl (.tmp 44) (.tmp 53) 84 rfl w6.heap.size 117 i0 (.agg #[.int .i64 0, .int .i64 0, .int .i64 0]) 3 24 Try.underlying84 hi hz0 hz1 hz2 rfl (by decide) _ _ _ rfl (HO.out.fr h4) (some ⟨W3.heap.size, 0, none⟩) 1 1 (spL ⟨p1, p2, p3⟩) rfl rfl (fun j u hu => ⟨_, rfl, by rw [Addr.add_lit, Nat.zero_add]; exact new_cell W3 _ _ (by simpa [spL] using hu)⟩) (by simp [spL, Value.oneCell']) (by rw [List.length_zipWith]; have := HBL.out; have := HLE.out; unfold maxLen; omega) (by rw [List.length_zipWith]; have := HBL.out; have := HLE.out; omega) (by have := HCW.out.size; have := h4.size; omega) ?_
              intro v3 w9 hown2 hg2 _ _
              obtain ⟨ao3, L3, cp3, rfl, _⟩ := owns_name hown2
              have hg3 : World.grownBy _ w9 (Value.slice ao pre.length cp).ownBlock := hg2
              have h5 : Chg (fun q => (Value.slice ao pre.length cp).ownBlock = some q) W w9 := (Chg.mono h4 (fun _ _ h => h.elim)).grown hg3 (fun k e => .inl e)
              have b1 : ∀ q, (Value.slice ao pre.length cp).ownBlock = some q → w6.heap.size ≤ q := fun q e => (HO.out.lt q e).1
              have n0 : ¬ (Value.slice ao pre.length cp).ownBlock = some (World.heap (w4)).size := fun e => by have := b1 _ e; omega
              have n1 : ¬ (Value.slice ao pre.length cp).ownBlock = some (w.heap.size + 1) := fun e => by have := b1 _ e; omega
              have n2 : ¬ (Value.slice ao pre.length cp).ownBlock = some (w.heap.size + 1 + 1) := fun e => by have := b1 _ e; omega
              have n3 : ¬ (Value.slice ao pre.length cp).ownBlock = some bb := fun e => by have := b1 _ e; omega
              have d5 := h5.cell c2 n0
              have f5 := h5.frozen c2 f2 n0
              have hK5 := ((keeps_chg h4).trans (mkeeps_grown (HO.out.fr h4) hg3))
              have hown4 : OwnS w9 w6.heap.size (.slice ao3 L3 cp3) (List.zipWith kf ([(1 : Int)]) (pre ++ [x])) := by
                rw [zip_snoc kf ([(1 : Int)]) pre x hj, HM.out, HY.out]
                unfold OwnS
                rw [List.length_append, flatS_snoc]
                exact hown2
              clear hg2 hown2
              go_simp
              refine hK.out _ _ ⟨h5.cell q2 n1, h5.cell q3 n2, h5.cell q1 n3⟩ (fun hHeld => ?_)
              clear hK K
              refine wpAnyH_ready (rs := [11]) (by kernel_rfl) (by simp) ?_
              refine AllReadyH.cons rfl (fun K hK => ?_) AllReadyH.nil
              go_simp
              have hX : Chg (fun q => (Value.slice ao pre.length cp).ownBlock = some q ∨ q = (World.heap (w4)).size) W (w9.setCell ⟨(World.heap (w4)).size, 0, none⟩ (.slice ao3 L3 cp3)) := h5.trans ((Chg.refl (fun q => q = (World.heap (w4)).size) w9).setCell (p := ⟨(World.heap (w4)).size, 0, none⟩) (.inl rfl) _) (fun _ _ h => .inl h) (fun _ _ h => .inr h)
              refine hK.out _ _ ⟨hX.cell q2 (fun h => h.elim n1 (fun e => by have e : w.heap.size + 1 = (World.heap (w4)).size := e; omega)), hX.cell q3 (fun h => h.elim n2 (fun e => by have e : w.heap.size + 1 + 1 = (World.heap (w4)).size := e; omega)), hX.cell q1 (fun h => h.elim n3 (fun e => by have e : bb = (World.heap (w4)).size := e; omega))⟩ (fun hHeld => ?_)
              clear hK K
              refine wpAnyH_done (by kernel_rfl) ?_ _
              refine onlyN_end ?_
              refine ⟨(hK5.trans (KeepsOthers.setCell _ _ _)).from _, Keep.of_chg hX (fun q hq => ?_), ⟨⟨_, World.cell?_setCell_same' _ _ _ (by rw [d5]; rfl), by rw [World.frozen?_setCell]; exact f5, ownsRow_setCell_below hown4 (a := ⟨(World.heap (w4)).size, 0, none⟩) hob _⟩, HCW.out.trans hX (fun _ _ h => h) (fun i hi h => ?_)⟩⟩
              · have hsW := HCW.out.size
                exact ⟨by omega, fun h => h.elim (fun e => by have := b1 q e; omega) (fun e => by omega)⟩
              · rcases h with h | h
                · have := b1 _ h
                  omega
                · exact h
            · go_simp
              refine hK.out _ _ ⟨q2, q3, q1⟩ (fun hHeld => ?_)
              clear hK K
              refine' wpAnyH_take (i := 4) (oi := _) (v := .int .i64 pre.length) ?hibB4 (by kernel_rfl) (by kernel_rfl) (by kernel_rfl) ?hqbB4 (Or.inl ⟨?hwbB4, fun w hSw => ?hybB4⟩) hHeld ?hkbB4
              case hibB4 => (simp only [List.getElem?_toArray, List.getElem?_cons_succ, List.getElem?_cons_zero]; rfl)
              case hqbB4 => exact fun _ _ _ h => h
              case hwbB4 => rfl
              case hybB4 => first | (go_simp; done) | (go_simp; with_reducible rfl)
              simp only [Act.put, List.setIfInBounds_toArray, List.set_cons_zero, List.set_cons_succ]
              refine' wpAnyH_take (i := 5) (oi := _) (v := .pointer (some ⟨bb, o + pre.length, none⟩)) ?hibB5 (by kernel_rfl) (by kernel_rfl) (by kernel_rfl) ?hqbB5 (Or.inl ⟨?hwbB5, fun w hSw => ?hybB5⟩) hHeld ?hkbB5
              case hibB5 => (simp only [List.getElem?_toArray, List.getElem?_cons_succ, List.getElem?_cons_zero]; rfl)
              case hqbB5 => exact fun _ _ _ h => h
              case hwbB5 => rfl
              case hybB5 => first | (go_simp; done) | (go_simp; with_reducible rfl)
              simp only [Act.put, List.setIfInBounds_toArray, List.set_cons_zero, List.set_cons_succ]
              refine' wpAnyH_take (i := 6) (oi := _) (v := .int .i64 m) ?hibB6 (by kernel_rfl) (by kernel_rfl) (by kernel_rfl) ?hqbB6 (Or.inl ⟨?hwbB6, fun w hSw => ?hybB6⟩) hHeld ?hkbB6
              case hibB6 => (simp only [List.getElem?_toArray, List.getElem?_cons_succ, List.getElem?_cons_zero]; rfl)
              case hqbB6 => exact fun _ _ _ h => h
              case hwbB6 => rfl
              case hybB6 => first | (go_simp; done) | (go_simp; with_reducible rfl)
              simp only [Act.put, List.setIfInBounds_toArray, List.set_cons_zero, List.set_cons_succ]
              refine wpAnyH_ready (rs := [0, 8]) (by kernel_rfl) (by simp) ?_
              refine AllReadyH.cons rfl (fun K hK => ?_) (AllReadyH.cons rfl (fun K hK => ?_) AllReadyH.nil)
              · go_simp
                refine hK.out _ _ ⟨q2, q3, q1⟩ (fun hHeld => ?_)
                clear hK K
                refine wpAnyH_ready (rs := [8]) (by kernel_rfl) (by simp) ?_
                refine AllReadyH.cons rfl (fun K hK => ?_) AllReadyH.nil
                go_simp
                refine hkc.mono ?_
                clear hkc
                rintro e9 W3 ⟨rfl, hC3⟩
                have h3 : Chg (fun _ => False) W W3 := ((Chg.refl _ W).drew).tr hC3
                have d3 := h3.cell c2 id
                refine hK.out _ _ ⟨h3.cell q2 id, h3.cell q3 id, h3.cell q1 id⟩ (fun hHeld => ?_)
                clear hK K
                refine wpAnyH_ready (rs := [9]) (by kernel_rfl) (by simp) ?_
                refine AllReadyH.cons rfl (fun K hK => ?_) AllReadyH.nil
                go_simp
                have h4 := h3.alloc (.cells #[.int .i64 p1, .int .i64 p2, .int .i64 p3] 117)
                have d4 := h4.cell c2 id
                refine hK.out _ _ ⟨h4.cell q2 id, h4.cell q3 id, h4.cell q1 id⟩ (fun hHeld => ?_)
                clear hK K
                refine wpAnyH_ready (rs := [10]) (by kernel_rfl) (by simp) ?_
                refine AllReadyH.cons rfl (fun K hK => ?_) AllReadyH.nil
                refine step_append_own rfl (.tmp 44) (.tmp 53) 84 rfl w6.heap.size 117 i0 (.agg #[.int .i64 0, .int .i64 0, .int .i64 0]) 3 24 Try.underlying84 hi hz0 hz1 hz2 rfl (by decide) _ _ _ rfl (HO.out.fr h4) (some ⟨W3.heap.size, 0, none⟩) 1 1 (spL ⟨p1, p2, p3⟩) rfl rfl (fun j u hu => ⟨_, rfl, by rw [Addr.add_lit, Nat.zero_add]; exact new_cell W3 _ _ (by simpa [spL] using hu)⟩) (by simp [spL, Value.oneCell']) (by rw [List.length_zipWith]; have := HBL.out; have := HLE.out; unfold maxLen; omega) (by rw [List.length_zipWith]; have := HBL.out; have := HLE.out; omega) (by have := HCW.out.size; have := h4.size; omega) ?_
                intro v3 w9 hown2 hg2 _ _
                obtain ⟨ao3, L3, cp3, rfl, _⟩ := owns_name hown2
                have hg3 : World.grownBy _ w9 (Value.slice ao pre.length cp).ownBlock := hg2
                have h5 : Chg (fun q => (Value.slice ao pre.length cp).ownBlock = some q) W w9 := (Chg.mono h4 (fun _ _ h => h.elim)).grown hg3 (fun k e => .inl e)
                have b1 : ∀ q, (Value.slice ao pre.length cp).ownBlock = some q → w6.heap.size ≤ q := fun q e => (HO.out.lt q e).1
                have n0 : ¬ (Value.slice ao pre.length cp).ownBlock = some (World.heap (w4)).size := fun e => by have := b1 _ e; omega
                have n1 : ¬ (Value.slice ao pre.length cp).ownBlock = some (w.heap.size + 1) := fun e => by have := b1 _ e; omega
                have n2 : ¬ (Value.slice ao pre.length cp).ownBlock = some (w.heap.size + 1 + 1) := fun e => by have := b1 _ e; omega
                have n3 : ¬ (Value.slice ao pre.length cp).ownBlock = some bb := fun e => by have := b1 _ e; omega
                have d5 := h5.cell c2 n0
                have f5 := h5.frozen c2 f2 n0
                have hK5 := ((keeps_chg h4).trans (mkeeps_grown (HO.out.fr h4) hg3))
                have hown4 : OwnS w9 w6.heap.size (.slice ao3 L3 cp3) (List.zipWith kf ([(1 : Int)]) (pre ++ [x])) := by
                  rw [zip_snoc kf ([(1 : Int)]) pre x hj, HM.out, HY.out]
                  unfold OwnS
                  rw [List.length_append, flatS_snoc]
                  exact hown2
                clear hg2 hown2
                go_simp
                refine hK.out _ _ ⟨h5.cell q2 n1, h5.cell q3 n2, h5.cell q1 n3⟩ (fun hHeld => ?_)
                clear hK K
                refine wpAnyH_ready (rs := [11]) (by kernel_rfl) (by simp) ?_
                refine AllReadyH.cons rfl (fun K hK => ?_) AllReadyH.nil
                go_simp
                have hX : Chg (fun q => (Value.slice ao pre.length cp).ownBlock = some q ∨ q = (World.heap (w4)).size) W (w9.setCell ⟨(World.heap (w4)).size, 0, none⟩ (.slice ao3 L3 cp3)) := h5.trans ((Chg.refl (fun q => q = (World.heap (w4)).size) w9).setCell (p := ⟨(World.heap (w4)).size, 0, none⟩) (.inl rfl) _) (fun _ _ h => .inl h) (fun _ _ h => .inr h)
                refine hK.out _ _ ⟨hX.cell q2 (fun h => h.elim n1 (fun e => by have e : w.heap.size + 1 = (World.heap (w4)).size := e; omega)), hX.cell q3 (fun h => h.elim n2 (fun e => by have e : w.heap.size + 1 + 1 = (World.heap (w4)).size := e; omega)), hX.cell q1 (fun h => h.elim n3 (fun e => by have e : bb = (World.heap (w4)).size := e; omega))⟩ (fun hHeld => ?_)
                clear hK K
                refine wpAnyH_done (by kernel_rfl) ?_ _
                refine onlyN_end ?_
                refine ⟨(hK5.trans (KeepsOthers.setCell _ _ _)).from _, Keep.of_chg hX (fun q hq => ?_), ⟨⟨_, World.cell?_setCell_same' _ _ _ (by rw [d5]; rfl), by rw [World.frozen?_setCell]; exact f5, ownsRow_setCell_below hown4 (a := ⟨(World.heap (w4)).size, 0, none⟩) hob _⟩, HCW.out.trans hX (fun _ _ h => h) (fun i hi h => ?_)⟩⟩
                · have hsW := HCW.out.size
                  exact ⟨by omega, fun h => h.elim (fun e => by have := b1 q e; omega) (fun e => by omega)⟩
                · rcases h with h | h
                  · have := b1 _ h
                    omega
                  · exact h
              · skip
                go_simp
                refine hkc.mono ?_
                clear hkc
                rintro e9 W3 ⟨rfl, hC3⟩
                have h3 : Chg (fun _ => False) W W3 := ((Chg.refl _ W).drew).tr hC3
                have d3 := h3.cell c2 id
                refine hK.out _ _ ⟨h3.cell q2 id, h3.cell q3 id, h3.cell q1 id⟩ (fun hHeld => ?_)
                clear hK K
                refine wpAnyH_ready (rs := [0, 9]) (by kernel_rfl) (by simp) ?_
                refine AllReadyH.cons rfl (fun K hK => ?_) (AllReadyH.cons rfl (fun K hK => ?_) AllReadyH.nil)
                · go_simp
                  refine hK.out _ _ ⟨h3.cell q2 id, h3.cell q3 id, h3.cell q1 id⟩ (fun hHeld => ?_)
                  clear hK K
                  refine wpAnyH_ready (rs := [9]) (by kernel_rfl) (by simp) ?_
                  refine AllReadyH.cons rfl (fun K hK => ?_) AllReadyH.nil
                  go_simp
                  have h4 := h3.alloc (.cells #[.int .i64 p1, .int .i64 p2, .int .i64 p3] 117)
                  have d4 := h4.cell c2 id
                  refine hK.out _ _ ⟨h4.cell q2 id, h4.cell q3 id, h4.cell q1 id⟩ (fun hHeld => ?_)
                  clear hK K
                  refine wpAnyH_ready (rs := [10]) (by kernel_rfl) (by simp) ?_
                  refine AllReadyH.cons rfl (fun K hK => ?_) AllReadyH.nil
                  refine step_append_own rfl (.tmp 44) (.tmp 53) 84 rfl w6.heap.size 117 i0 (.agg #[.int .i64 0, .int .i64 0, .int .i64 0]) 3 24 Try.underlying84 hi hz0 hz1 hz2 rfl (by decide) _ _ _ rfl (HO.out.fr h4) (some ⟨W3.heap.size, 0, none⟩) 1 1 (spL ⟨p1, p2, p3⟩) rfl rfl (fun j u hu => ⟨_, rfl, by rw [Addr.add_lit, Nat.zero_add]; exact new_cell W3 _ _ (by simpa [spL] using hu)⟩) (by simp [spL, Value.oneCell']) (by rw [List.length_zipWith]; have := HBL.out; have := HLE.out; unfold maxLen; omega) (by rw [List.length_zipWith]; have := HBL.out; have := HLE.out; omega) (by have := HCW.out.size; have := h4.size; omega) ?_
                  intro v3 w9 hown2 hg2 _ _
                  obtain ⟨ao3, L3, cp3, rfl, _⟩ := owns_name hown2
                  have hg3 : World.grownBy _ w9 (Value.slice ao pre.length cp).ownBlock := hg2
                  have h5 : Chg (fun q => (Value.slice ao pre.length cp).ownBlock = some q) W w9 := (Chg.mono h4 (fun _ _ h => h.elim)).grown hg3 (fun k e => .inl e)
                  have b1 : ∀ q, (Value.slice ao pre.length cp).ownBlock = some q → w6.heap.size ≤ q := fun q e => (HO.out.lt q e).1
                  have n0 : ¬ (Value.slice ao pre.length cp).ownBlock = some (World.heap (w4)).size := fun e => by have := b1 _ e; omega
                  have n1 : ¬ (Value.slice ao pre.length cp).ownBlock = some (w.heap.size + 1) := fun e => by have := b1 _ e; omega
                  have n2 : ¬ (Value.slice ao pre.length cp).ownBlock = some (w.heap.size + 1 + 1) := fun e => by have := b1 _ e; omega
                  have n3 : ¬ (Value.slice ao pre.length cp).ownBlock = some bb := fun e => by have := b1 _ e; omega
                  have d5 := h5.cell c2 n0
                  have f5 := h5.frozen c2 f2 n0
                  have hK5 := ((keeps_chg h4).trans (mkeeps_grown (HO.out.fr h4) hg3))
                  have hown4 : OwnS w9 w6.heap.size (.slice ao3 L3 cp3) (List.zipWith kf ([(1 : Int)]) (pre ++ [x])) := by
                    rw [zip_snoc kf ([(1 : Int)]) pre x hj, HM.out, HY.out]
                    unfold OwnS
                    rw [List.length_append, flatS_snoc]
                    exact hown2
                  clear hg2 hown2
                  go_simp
                  refine hK.out _ _ ⟨h5.cell q2 n1, h5.cell q3 n2, h5.cell q1 n3⟩ (fun hHeld => ?_)
                  clear hK K
                  refine wpAnyH_ready (rs := [11]) (by kernel_rfl) (by simp) ?_
                  refine AllReadyH.cons rfl (fun K hK => ?_) AllReadyH.nil
                  go_simp
                  have hX : Chg (fun q => (Value.slice ao pre.length cp).ownBlock = some q ∨ q = (World.heap (w4)).size) W (w9.setCell ⟨(World.heap (w4)).size, 0, none⟩ (.slice ao3 L3 cp3)) := h5.trans ((Chg.refl (fun q => q = (World.heap (w4)).size) w9).setCell (p := ⟨(World.heap (w4)).size, 0, none⟩) (.inl rfl) _) (fun _ _ h => .inl h) (fun _ _ h => .inr h)
                  refine hK.out _ _ ⟨hX.cell q2 (fun h => h.elim n1 (fun e => by have e : w.heap.size + 1 = (World.heap (w4)).size := e; omega)), hX.cell q3 (fun h => h.elim n2 (fun e => by have e : w.heap.size + 1 + 1 = (World.heap (w4)).size := e; omega)), hX.cell q1 (fun h => h.elim n3 (fun e => by have e : bb = (World.heap (w4)).size := e; omega))⟩ (fun hHeld => ?_)
                  clear hK K
                  refine wpAnyH_done (by kernel_rfl) ?_ _
                  refine onlyN_end ?_
                  refine ⟨(hK5.trans (KeepsOthers.setCell _ _ _)).from _, Keep.of_chg hX (fun q hq => ?_), ⟨⟨_, World.cell?_setCell_same' _ _ _ (by rw [d5]; rfl), by rw [World.frozen?_setCell]; exact f5, ownsRow_setCell_below hown4 (a := ⟨(World.heap (w4)).size, 0, none⟩) hob _⟩, HCW.out.trans hX (fun _ _ h => h) (fun i hi h => ?_)⟩⟩
                  · have hsW := HCW.out.size
                    exact ⟨by omega, fun h => h.elim (fun e => by have := b1 q e; omega) (fun e => by omega)⟩
                  · rcases h with h | h
                    · have := b1 _ h
                      omega
                    · exact h
                · go_simp
                  have h4 := h3.alloc (.cells #[.int .i64 p1, .int .i64 p2, .int .i64 p3] 117)
                  have d4 := h4.cell c2 id
                  refine hK.out _ _ ⟨h4.cell q2 id, h4.cell q3 id, h4.cell q1 id⟩ (fun hHeld => ?_)
                  clear hK K
                  refine wpAnyH_ready (rs := [0]) (by kernel_rfl) (by simp) ?_
                  refine AllReadyH.cons rfl (fun K hK => ?_) AllReadyH.nil
                  go_simp
                  refine hK.out _ _ ⟨h4.cell q2 id, h4.cell q3 id, h4.cell q1 id⟩ (fun hHeld => ?_)
                  clear hK K
                  refine wpAnyH_ready (rs := [10]) (by kernel_rfl) (by simp) ?_
                  refine AllReadyH.cons rfl (fun K hK => ?_) AllReadyH.nil
                  refine step_append_own rfl (.tmp 44) (.tmp 53) 84 rfl w6.heap.size 117 i0 (.agg #[.int .i64 0, .int .i64 0, .int .i64 0]) 3 24 Try.underlying84 hi hz0 hz1 hz2 rfl (by decide) _ _ _ rfl (HO.out.fr h4) (some ⟨W3.heap.size, 0, none⟩) 1 1 (spL ⟨p1, p2, p3⟩) rfl rfl (fun j u hu => ⟨_, rfl, by rw [Addr.add_lit, Nat.zero_add]; exact new_cell W3 _ _ (by simpa [spL] using hu)⟩) (by simp [spL, Value.oneCell']) (by rw [List.length_zipWith]; have := HBL.out; have := HLE.out; unfold maxLen; omega) (by rw [List.length_zipWith]; have := HBL.out; have := HLE.out; omega) (by have := HCW.out.size; have := h4.size; omega) ?_
                  intro v3 w9 hown2 hg2 _ _
                  obtain ⟨ao3, L3, cp3, rfl, _⟩ := owns_name hown2
                  have hg3 : World.grownBy _ w9 (Value.slice ao pre.length cp).ownBlock := hg2
                  have h5 : Chg (fun q => (Value.slice ao pre.length cp).ownBlock = some q) W w9 := (Chg.mono h4 (fun _ _ h => h.elim)).grown hg3 (fun k e => .inl e)
                  have b1 : ∀ q, (Value.slice ao pre.length cp).ownBlock = some q → w6.heap.size ≤ q := fun q e => (HO.out.lt q e).1
                  have n0 : ¬ (Value.slice ao pre.length cp).ownBlock = some (World.heap (w4)).size := fun e => by have := b1 _ e; omega
                  have n1 : ¬ (Value.slice ao pre.length cp).ownBlock = some (w.heap.size + 1) := fun e => by have := b1 _ e; omega
                  have n2 : ¬ (Value.slice ao pre.length cp).ownBlock = some (w.heap.size + 1 + 1) := fun e => by have := b1 _ e; omega
                  have n3 : ¬ (Value.slice ao pre.length cp).ownBlock = some bb := fun e => by have := b1 _ e; omega
                  have d5 := h5.cell c2 n0
                  have f5 := h5.frozen c2 f2 n0
                  have hK5 := ((keeps_chg h4).trans (mkeeps_grown (HO.out.fr h4) hg3))
                  have hown4 : OwnS w9 w6.heap.size (.slice ao3 L3 cp3) (List.zipWith kf ([(1 : Int)]) (pre ++ [x])) := by
                    rw [zip_snoc kf ([(1 : Int)]) pre x hj, HM.out, HY.out]
                    unfold OwnS
                    rw [List.length_append, flatS_snoc]
                    exact hown2
                  clear hg2 hown2
                  go_simp
                  refine hK.out _ _ ⟨h5.cell q2 n1, h5.cell q3 n2, h5.cell q1 n3⟩ (fun hHeld => ?_)
                  clear hK K
                  refine wpAnyH_ready (rs := [11]) (by kernel_rfl) (by simp) ?_
                  refine AllReadyH.cons rfl (fun K hK => ?_) AllReadyH.nil
                  go_simp
                  have hX : Chg (fun q => (Value.slice ao pre.length cp).ownBlock = some q ∨ q = (World.heap (w4)).size) W (w9.setCell ⟨(World.heap (w4)).size, 0, none⟩ (.slice ao3 L3 cp3)) := h5.trans ((Chg.refl (fun q => q = (World.heap (w4)).size) w9).setCell (p := ⟨(World.heap (w4)).size, 0, none⟩) (.inl rfl) _) (fun _ _ h => .inl h) (fun _ _ h => .inr h)
                  refine hK.out _ _ ⟨hX.cell q2 (fun h => h.elim n1 (fun e => by have e : w.heap.size + 1 = (World.heap (w4)).size := e; omega)), hX.cell q3 (fun h => h.elim n2 (fun e => by have e : w.heap.size + 1 + 1 = (World.heap (w4)).size := e; omega)), hX.cell q1 (fun h => h.elim n3 (fun e => by have e : bb = (World.heap (w4)).size := e; omega))⟩ (fun hHeld => ?_)
                  clear hK K
                  refine wpAnyH_done (by kernel_rfl) ?_ _
                  refine onlyN_end ?_
                  refine ⟨(hK5.trans (KeepsOthers.setCell _ _ _)).from _, Keep.of_chg hX (fun q hq => ?_), ⟨⟨_, World.cell?_setCell_same' _ _ _ (by rw [d5]; rfl), by rw [World.frozen?_setCell]; exact f5, ownsRow_setCell_below hown4 (a := ⟨(World.heap (w4)).size, 0, none⟩) hob _⟩, HCW.out.trans hX (fun _ _ h => h) (fun i hi h => ?_)⟩⟩
                  · have hsW := HCW.out.size
                    exact ⟨by omega, fun h => h.elim (fun e => by have := b1 q e; omega) (fun e => by omega)⟩
                  · rcases h with h | h
                    · have := b1 _ h
                      omega
                    · exact h
          case doneb =>
            rintro D xs W hD rfl ⟨⟨v, c2, f2, hown⟩, hC⟩ hK
            obtain ⟨ao, L, cp, rfl, hL⟩ := owns_name (show World.ownsRow _ _ _ _ _ _ _ from hown)
            have hCw := HHC6.out
            clear ob ofz sb kb sf sb6 kb6 r6
            go_wp2
            exact sp_leave hK (by have := hCw.size; omega) (hCw.trans hC (fun _ _ h => h) (fun i hi e => by omega)) (by have := hCw.size; omega) hown rfl rfl
          case stopb => exact fun _ _ _ _ _ _ h => h.elim
        · have hN := HN.out
          rw [hsh, if_pos rfl, if_pos rfl, if_neg hln] at hN
          have hF := HF.out
          rw [hN, if_neg (by decide)] at hF
          subst hN hF
          have b1 : ((X.length : Int) != 1) = true := bne_iff_ne.2 (fun h => hln (by show X.length = 1; omega))
          have hsz3 : w.heap.size + 1 + 1 < w3.heap.size := cell_lt kb
          have HC4 := Lib.hid (((HC.out.alloc (.cells #[.int .i64 1] 3))).setCell (p := ⟨w.heap.size + 1, 0, none⟩) (.inr (by simp)) (.slice (some ⟨w3.heap.size, 0, none⟩) 1 1))
          have hCa := (Chg.refl (fun _ => False) w3).alloc (.cells #[.int .i64 1] 3)
          have sb3 := hCa.cell sb id
          have sf3 := hCa.frozen sb sf id
          have sb4 : ((w3.alloc (.cells #[.int .i64 1] 3)).setCell ⟨w.heap.size + 1, 0, none⟩ (.slice (some ⟨w3.heap.size, 0, none⟩) 1 1)).cell? ⟨w.heap.size + 1, 0, none⟩ = some (.slice (some ⟨w3.heap.size, 0, none⟩) 1 1) := World.cell?_setCell_same' _ _ _ (by rw [sb3]; rfl)
          clear hsh hS0 hCa
          go_wp2
          exact sp_no HC4.out rfl rfl
      · have hS0 : spS s = s := if_neg hs0
        rw [hS0] at HN HF
        have b0 : ((s.length : Int) == 0) = false := beq_eq_false_iff_ne.2 (fun h => hs0 (List.eq_nil_of_length_eq_zero (by omega)))
        by_cases hln : X.length = s.length
        · have hN := HN.out
          rw [hsh, if_pos rfl, if_pos rfl, if_pos hln] at hN
          have hF := HF.out
          rw [hN, if_pos rfl] at hF
          subst hN hF
          have b1 : ((X.length : Int) != (s.length : Int)) = false := bne_eq_false_iff_eq.2 (by omega)
          have HLN := Lib.hid hln
          clear hln
          have ob := new_cell (w3) #[.slice none 0 0] 84 (i := 0) rfl
          have ofz := new_frozen (w3) #[.slice none 0 0] 84 0
          have hC5 := (Chg.refl (fun _ => False) (w3)).alloc (.cells #[.slice none 0 0] 84)
          obtain ⟨w5, hw5⟩ : ∃ w5, World.alloc (w3) (.cells #[.slice none 0 0] 84) = w5 := ⟨_, rfl⟩
          have hz5 : w5.heap.size = (w3).heap.size + 1 := by rw [← hw5]; simp
          have hle1 := lengths_any a1 X.length c1 w5
          rw [hw5] at ob ofz hC5
          go_wp2_with fail
          refine hle1.mono ?_
          clear hle1
          rintro e9 w6 ⟨rfl, hw6⟩
          have hC6 : Chg (fun _ => False) w5 w6 := by rw [hw6]; exact (Chg.refl _ w5).alloc _
          have r6 : w6.cell? ⟨(w3).heap.size + 1, 0, none⟩ = some (.slice a1 X.length c1) := by rw [← hz5, hw6]; exact new_cell w5 _ _ rfl
          clear hw6 hw5
          replace ofz := hC6.frozen ob ofz id
          replace ob := hC6.cell ob id
          have hC56 := hC5.tr hC6
          have hob : (w3).heap.size < w6.heap.size := cell_lt ob
          have sb6 := hC56.cell sb id
          have kb6 := hC56.cell kb id
          have hszW : w.heap.size + 1 + 1 < (w3).heap.size := cell_lt kb
          have HS6 := Lib.hid ((HS.out.fr HC.out).fr hC56)
          have HHC6 := Lib.hid (HC.out.tr hC56)
          go_wp2
          refine wp_rangeT (gf := 97) (lb := #[.pointer (some ⟨(w3).heap.size + 1, 0, none⟩)]) (R := fun q => q < (w3).heap.size) (T := fun _ => False) rfl (enters_of Try.func97 (by kernel_rfl) rfl) (fun q h => h.elim) (fun q hq => by have := hC56.size; omega)
            (lengths_seq ((w3).heap.size + 1) (w3).heap.size a1 X.length c1 X rfl HLE.out (w3) w6 rfl HO1.out hC56.size (fun q hq => hC56.block q hq id) r6) (fun _ => rfl)
            (ColS (w3).heap.size w6.heap.size kf s w6) (fun _ _ _ => False) (ColS.own _ _ _ _ _ _ (Nat.le_refl _)) (fun c => fun _ _ _ _ h => h.elim) (ColS.abides _ _ _ _ _) (fun c => fun _ _ _ h => h.elim) ⟨⟨_, ob, ofz, by rw [List.zipWith_nil_right]; exact OwnS.nil _ _⟩, Chg.refl _ _⟩ ?q1a ?assigna ?bodya ?donea ?stopa
          case assigna =>
            intro l x W K hK
            simp only [encL]
            gi_wp2
            exact hK
          case bodya =>
            rintro l pre x W ⟨⟨v, c2, f2, hown⟩, hC⟩ hlen
            obtain ⟨ao, L, cp, rfl, hL⟩ := owns_name (show World.ownsRow _ _ _ _ _ _ _ from hown)
            have hj : pre.length < List.length (s) := by rw [← HLN.out]; exact hlen
            have hLp : L = pre.length := by rw [hL.out, List.length_zipWith]; omega
            subst hLp
            obtain ⟨bb, o, cc, e1, hx0⟩ := ((HS.out.fr HC.out)).at hj
            have hbb := cell_lt hx0
            replace e1 : _ = Value.slice (some ⟨bb, o, none⟩) s.length cc := e1
            have hm := HBD.out _ (List.getElem_mem hj)
            have hown3 := hown
            obtain ⟨m, hmm⟩ : ∃ m, (s)[pre.length] = m := ⟨_, rfl⟩
            rw [hmm] at hx0 hm
            have HM := Lib.hid hmm
            clear hmm
            have q1 : W.cell? ⟨bb, o + pre.length, none⟩ = some (.int .i64 m) := hC.cell (hC56.cell hx0 id) (fun e => by have e : bb = _ := e; omega)
            have q2 : W.cell? ⟨w.heap.size + 1, 0, none⟩ = some (.slice (some ⟨bb, o, none⟩) s.length cc) := by rw [← e1]; exact hC.cell (hC56.cell sb id) (fun e => by have e : w.heap.size + 1 = _ := e; omega)
            have q3 : W.cell? ⟨w.heap.size + 1 + 1, 0, none⟩ = some (.func (.func gf) #[] #[]) := hC.cell (hC56.cell kb id) (fun e => by have e : w.heap.size + 1 + 1 = _ := e; omega)
            have hkc := HK.out m x W.drew hm
            obtain ⟨⟨p1, p2, p3⟩, hY⟩ : ∃ Y, kf m x = Y := ⟨_, rfl⟩
            rw [hY] at hkc
            have HY := Lib.hid hY
            clear hY
            unfold GaveSp spV at hkc
            simp only at hkc
            have HO := Lib.hid hown
            have HCW := Lib.hid hC
            have HBL := Lib.hid hlen
            have hi0 : (0 : Int) ≤ (pre.length : Int) := by omega
            have hi1 : (pre.length : Int) < ((s.length : Nat) : Int) := by have hj2 : pre.length < s.length := hj; omega
            have hbs : bb < W.heap.size := cell_lt q1
            have hi2 : (pre.length : Int) < s.length := by have hj2 : pre.length < s.length := hj; omega
            clear hown hC hlen hm sb kb sf sb6 kb6 r6 ob ofz hx0 hL e1
            gi_wp2_with fail
            refine in_round_held (S := fun w' => w'.cell? ⟨w.heap.size + 1, 0, none⟩ = some (.slice (some ⟨bb, o, none⟩) s.length cc) ∧ w'.cell? ⟨w.heap.size + 1 + 1, 0, none⟩ = some (.func (.func gf) #[] #[]) ∧ w'.cell? ⟨bb, o + pre.length, none⟩ = some (.int .i64 m)) (by kernel_rfl) (by kernel_rfl) ⟨q2, q3, q1⟩ (fun hHeld => ?_)
            have hSW := hHeld
            refine' wpAnyH_take (i := 1) (oi := _) (v := .func (.func gf) #[] #[]) ?hia1 (by kernel_rfl) (by kernel_rfl) (by kernel_rfl) ?hqa1 (Or.inl ⟨?hwa1, fun w hSw => ?hya1⟩) hHeld ?hka1
            case hia1 => (simp only [List.getElem?_toArray, List.getElem?_cons_succ, List.getElem?_cons_zero]; rfl)
            case hqa1 => exact fun _ _ _ h => h
            case hwa1 => rfl
            case hya1 => first | (go_simp; done) | (go_simp; with_reducible rfl)
            simp only [Act.put, List.setIfInBounds_toArray, List.set_cons_zero, List.set_cons_succ]
            refine' wpAnyH_take (i := 2) (oi := _) (v := .slice (some ⟨bb, o, none⟩) s.length cc) ?hia2 (by kernel_rfl) (by kernel_rfl) (by kernel_rfl) ?hqa2 (Or.inl ⟨?hwa2, fun w hSw => ?hya2⟩) hHeld ?hka2
            case hia2 => (simp only [List.getElem?_toArray, List.getElem?_cons_succ, List.getElem?_cons_zero]; rfl)
            case hqa2 => exact fun _ _ _ h => h
            case hwa2 => rfl
            case hya2 => first | (go_simp; done) | (go_simp; with_reducible rfl)
            simp only [Act.put, List.setIfInBounds_toArray, List.set_cons_zero, List.set_cons_succ]
            refine' wpAnyH_take (i := 7) (oi := _) (v := .int .i64 x) ?hia7 (by kernel_rfl) (by kernel_rfl) (by kernel_rfl) ?hqa7 (Or.inl ⟨?hwa7, fun w hSw => ?hya7⟩) hHeld ?hka7
            case hia7 => (simp only [List.getElem?_toArray, List.getElem?_cons_succ, List.getElem?_cons_zero]; rfl)
            case hqa7 => exact fun _ _ _ h => h
            case hwa7 => rfl
            case hya7 => first | (go_simp; done) | (go_simp; with_reducible rfl)
            simp only [Act.put, List.setIfInBounds_toArray, List.set_cons_zero, List.set_cons_succ]
            refine wpAnyH_ready (rs := [0, 3]) (by kernel_rfl) (by simp) ?_
            refine AllReadyH.cons rfl (fun K hK => ?_) (AllReadyH.cons rfl (fun K hK => ?_) AllReadyH.nil)
            · go_simp
              refine hK.out _ _ ⟨q2, q3, q1⟩ (fun hHeld => ?_)
              clear hK K
              refine wpAnyH_ready (rs := [3]) (by kernel_rfl) (by simp) ?_
              refine AllReadyH.cons rfl (fun K hK => ?_) AllReadyH.nil
              go_simp
              refine hK.out _ _ ⟨q2, q3, q1⟩ (fun hHeld => ?_)
              clear hK K
              refine' wpAnyH_take (i := 4) (oi := _) (v := .int .i64 pre.length) ?hiaA4 (by kernel_rfl) (by kernel_rfl) (by kernel_rfl) ?hqaA4 (Or.inl ⟨?hwaA4, fun w hSw => ?hyaA4⟩) hHeld ?hkaA4
              case hiaA4 => (simp only [List.getElem?_toArray, List.getElem?_cons_succ, List.getElem?_cons_zero]; rfl)
              case hqaA4 => exact fun _ _ _ h => h
              case hwaA4 => rfl
              case hyaA4 => first | (go_simp; done) | (go_simp; with_reducible rfl)
              simp only [Act.put, List.setIfInBounds_toArray, List.set_cons_zero, List.set_cons_succ]
              refine' wpAnyH_take (i := 5) (oi := _) (v := .pointer (some ⟨bb, o + pre.length, none⟩)) ?hiaA5 (by kernel_rfl) (by kernel_rfl) (by kernel_rfl) ?hqaA5 (Or.inl ⟨?hwaA5, fun w hSw => ?hyaA5⟩) hHeld ?hkaA5
              case hiaA5 => (simp only [List.getElem?_toArray, List.getElem?_cons_succ, List.getElem?_cons_zero]; rfl)
              case hqaA5 => exact fun _ _ _ h => h
              case hwaA5 => rfl
              case hyaA5 => first | (go_simp; done) | (go_simp; with_reducible rfl)
              simp only [Act.put, List.setIfInBounds_toArray, List.set_cons_zero, List.set_cons_succ]
              refine' wpAnyH_take (i := 6) (oi := _) (v := .int .i64 m) ?hiaA6 (by kernel_rfl) (by kernel_rfl) (by kernel_rfl) ?hqaA6 (Or.inl ⟨?hwaA6, fun w hSw => ?hyaA6⟩) hHeld ?hkaA6
              case hiaA6 => (simp only [List.getElem?_toArray, List.getElem?_cons_succ, List.getElem?_cons_zero]; rfl)
              case hqaA6 => exact fun _ _ _ h => h
              case hwaA6 => rfl
              case hyaA6 => first | (go_simp; done) | (go_simp; with_reducible rfl)
              simp only [Act.put, List.setIfInBounds_toArray, List.set_cons_zero, List.set_cons_succ]
              refine wpAnyH_ready (rs := [8]) (by kernel_rfl) (by simp) ?_
              refine AllReadyH.cons rfl (fun K hK => ?_) AllReadyH.nil
              go_simp
              refine hkc.mono ?_
              clear hkc
              rintro e9 W3 ⟨rfl, hC3⟩
              have h3 : Chg (fun _ => False) W W3 := ((Chg.refl _ W).drew).tr hC3
              have d3 := h3.cell c2 id
              refine hK.out _ _ ⟨h3.cell q2 id, h3.cell q3 id, h3.cell q1 id⟩ (fun hHeld => ?_)
              clear hK K
              refine wpAnyH_ready (rs := [9]) (by kernel_rfl) (by simp) ?_
              refine AllReadyH.cons rfl (fun K hK => ?_) AllReadyH.nil
              go_simp
              have h4 := h3.alloc (.cells #[.int .i64 p1, .int .i64 p2, .int .i64 p3] 117)
              have d4 := h4.cell c2 id
              refine hK.out _ _ ⟨h4.cell q2 id, h4.cell q3 id, h4.cell q1 id⟩ (fun hHeld => ?_)
              clear hK K
              refine wpAnyH_ready (rs := [10]) (by kernel_rfl) (by simp) ?_
              refine AllReadyH.cons rfl (fun K hK => ?_) AllReadyH.nil
              refine step_append_own rfl (.tmp 44) (.tmp 53) 84 rfl w6.heap.size 117 i0 (.agg #[.int .i64 0, .int .i64 0, .int .i64 0]) 3 24 Try.underlying84 hi hz0 hz1 hz2 rfl (by decide) _ _ _ rfl (HO.out.fr h4) (some ⟨W3.heap.size, 0, none⟩) 1 1 (spL ⟨p1, p2, p3⟩) rfl rfl (fun j u hu => ⟨_, rfl, by rw [Addr.add_lit, Nat.zero_add]; exact new_cell W3 _ _ (by simpa [spL] using hu)⟩) (by simp [spL, Value.oneCell']) (by rw [List.length_zipWith]; have := HBL.out; have := HLE.out; unfold maxLen; omega) (by rw [List.length_zipWith]; have := HBL.out; have := HLE.out; omega) (by have := HCW.out.size; have := h4.size; omega) ?_
              intro v3 w9 hown2 hg2 _ _
              obtain ⟨ao3, L3, cp3, rfl, _⟩ := owns_name hown2
              have hg3 : World.grownBy _ w9 (Value.slice ao pre.length cp).ownBlock := hg2
              have h5 : Chg (fun q => (Value.slice ao pre.length cp).ownBlock = some q) W w9 := (Chg.mono h4 (fun _ _ h => h.elim)).grown hg3 (fun k e => .inl e)
              have b1 : ∀ q, (Value.slice ao pre.length cp).ownBlock = some q → w6.heap.size ≤ q := fun q e => (HO.out.lt q e).1
              have n0 : ¬ (Value.slice ao pre.length cp).ownBlock = some (World.heap (w3)).size := fun e => by have := b1 _ e; omega
              have n1 : ¬ (Value.slice ao pre.length cp).ownBlock = some (w.heap.size + 1) := fun e => by have := b1 _ e; omega
              have n2 : ¬ (Value.slice ao pre.length cp).ownBlock = some (w.heap.size + 1 + 1) := fun e => by have := b1 _ e; omega
              have n3 : ¬ (Value.slice ao pre.length cp).ownBlock = some bb := fun e => by have := b1 _ e; omega
              have d5 := h5.cell c2 n0
              have f5 := h5.frozen c2 f2 n0
              have hK5 := ((keeps_chg h4).trans (mkeeps_grown (HO.out.fr h4) hg3))
              have hown4 : OwnS w9 w6.heap.size (.slice ao3 L3 cp3) (List.zipWith kf (s) (pre ++ [x])) := by
                rw [zip_snoc kf (s) pre x hj, HM.out, HY.out]
                unfold OwnS
                rw [List.length_append, flatS_snoc]
                exact hown2
              clear hg2 hown2
              go_simp
              refine hK.out _ _ ⟨h5.cell q2 n1, h5.cell q3 n2, h5.cell q1 n3⟩ (fun hHeld => ?_)
              clear hK K
              refine wpAnyH_ready (rs := [11]) (by kernel_rfl) (by simp) ?_
              refine AllReadyH.cons rfl (fun K hK => ?_) AllReadyH.nil
              go_simp
              have hX : Chg (fun q => (Value.slice ao pre.length cp).ownBlock = some q ∨ q = (World.heap (w3)).size) W (w9.setCell ⟨(World.heap (w3)).size, 0, none⟩ (.slice ao3 L3 cp3)) := h5.trans ((Chg.refl (fun q => q = (World.heap (w3)).size) w9).setCell (p := ⟨(World.heap (w3)).size, 0, none⟩) (.inl rfl) _) (fun _ _ h => .inl h) (fun _ _ h => .inr h)
              refine hK.out _ _ ⟨hX.cell q2 (fun h => h.elim n1 (fun e => by have e : w.heap.size + 1 = (World.heap (w3)).size := e; omega)), hX.cell q3 (fun h => h.elim n2 (fun e => by have e : w.heap.size + 1 + 1 = (World.heap (w3)).size := e; omega)), hX.cell q1 (fun h => h.elim n3 (fun e => by have e : bb = (World.heap (w3)).size := e; omega))⟩ (fun hHeld => ?_)
              clear hK K
              refine wpAnyH_done (by kernel_rfl) ?_ _
              refine onlyN_end ?_
              refine ⟨(hK5.trans (KeepsOthers.setCell _ _ _)).from _, Keep.of_chg hX (fun q hq => ?_), ⟨⟨_, World.cell?_setCell_same' _ _ _ (by rw [d5]; rfl), by rw [World.frozen?_setCell]; exact f5, ownsRow_setCell_below hown4 (a := ⟨(World.heap (w3)).size, 0, none⟩) hob _⟩, HCW.out.trans hX (fun _ _ h => h) (fun i hi h => ?_)⟩⟩
              · have hsW := HCW.out.size
                exact ⟨by omega, fun h => h.elim (fun e => by have := b1 q e; omega) (fun e => by omega)⟩
              · rcases h with h | h
                · have := b1 _ h
                  omega
                · exact h
            · go_simp
              refine hK.out _ _ ⟨q2, q3, q1⟩ (fun hHeld => ?_)
              clear hK K
              refine' wpAnyH_take (i := 4) (oi := _) (v := .int .i64 pre.length) ?hiaB4 (by kernel_rfl) (by kernel_rfl) (by kernel_rfl) ?hqaB4 (Or.inl ⟨?hwaB4, fun w hSw => ?hyaB4⟩) hHeld ?hkaB4
              case hiaB4 => (simp only [List.getElem?_toArray, List.getElem?_cons_succ, List.getElem?_cons_zero]; rfl)
              case hqaB4 => exact fun _ _ _ h => h
              case hwaB4 => rfl
              case hyaB4 => first | (go_simp; done) | (go_simp; with_reducible rfl)
              simp only [Act.put, List.setIfInBounds_toArray, List.set_cons_zero, List.set_cons_succ]
              refine' wpAnyH_take (i := 5) (oi := _) (v := .pointer (some ⟨bb, o + pre.length, none⟩)) ?hiaB5 (by kernel_rfl) (by kernel_rfl) (by kernel_rfl) ?hqaB5 (Or.inl ⟨?hwaB5, fun w hSw => ?hyaB5⟩) hHeld ?hkaB5
              case hiaB5 => (simp only [List.getElem?_toArray, List.getElem?_cons_succ, List.getElem?_cons_zero]; rfl)
              case hqaB5 => exact fun _ _ _ h => h
              case hwaB5 => rfl
              case hyaB5 => first | (go_simp; done) | (go_simp; with_reducible rfl)
              simp only [Act.put, List.setIfInBounds_toArray, List.set_cons_zero, List.set_cons_succ]
              refine' wpAnyH_take (i := 6) (oi := _) (v := .int .i64 m) ?hiaB6 (by kernel_rfl) (by kernel_rfl) (by kernel_rfl) ?hqaB6 (Or.inl ⟨?hwaB6, fun w hSw => ?hyaB6⟩) hHeld ?hkaB6
              case hiaB6 => (simp only [List.getElem?_toArray, List.getElem?_cons_succ, List.getElem?_cons_zero]; rfl)
              case hqaB6 => exact fun _ _ _ h => h
              case hwaB6 => rfl
              case hyaB6 => first | (go_simp; done) | (go_simp; with_reducible rfl)
              simp only [Act.put, List.setIfInBounds_toArray, List.set_cons_zero, List.set_cons_succ]
              refine wpAnyH_ready (rs := [0, 8]) (by kernel_rfl) (by simp) ?_
              refine AllReadyH.cons rfl (fun K hK => ?_) (AllReadyH.cons rfl (fun K hK => ?_) AllReadyH.nil)
              · go_simp
                refine hK.out _ _ ⟨q2, q3, q1⟩ (fun hHeld => ?_)
                clear hK K
                refine wpAnyH_ready (rs := [8]) (by kernel_rfl) (by simp) ?_
                refine AllReadyH.cons rfl (fun K hK => ?_) AllReadyH.nil
                go_simp
                refine hkc.mono ?_
                clear hkc
                rintro e9 W3 ⟨rfl, hC3⟩
                have h3 : Chg (fun _ => False) W W3 := ((Chg.refl _ W).drew).tr hC3
                have d3 := h3.cell c2 id
                refine hK.out _ _ ⟨h3.cell q2 id, h3.cell q3 id, h3.cell q1 id⟩ (fun hHeld => ?_)
                clear hK K
                refine wpAnyH_ready (rs := [9]) (by kernel_rfl) (by simp) ?_
                refine AllReadyH.cons rfl (fun K hK => ?_) AllReadyH.nil
                go_simp
                have h4 := h3.alloc (.cells #[.int .i64 p1, .int .i64 p2, .int .i64 p3] 117)
                have d4 := h4.cell c2 id
                refine hK.out _ _ ⟨h4.cell q2 id, h4.cell q3 id, h4.cell q1 id⟩ (fun hHeld => ?_)
                clear hK K
                refine wpAnyH_ready (rs := [10]) (by kernel_rfl) (by simp) ?_
                refine AllReadyH.cons rfl (fun K hK => ?_) AllReadyH.nil
                refine step_append_own rfl (.tmp 44) (.tmp 53) 84 rfl w6.heap.size 117 i0 (.agg #[.int .i64 0, .int .i64 0, .int .i64 0]) 3 24 Try.underlying84 hi hz0 hz1 hz2 rfl (by decide) _ _ _ rfl (HO.out.fr h4) (some ⟨W3.heap.size, 0, none⟩) 1 1 (spL ⟨p1, p2, p3⟩) rfl rfl (fun j u hu => ⟨_, rfl, by rw [Addr.add_lit, Nat.zero_add]; exact new_cell W3 _ _ (by simpa [spL] using hu)⟩) (by simp [spL, Value.oneCell']) (by rw [List.length_zipWith]; have := HBL.out; have := HLE.out; unfold maxLen; omega) (by rw [List.length_zipWith]; have := HBL.out; have := HLE.out; omega) (by have := HCW.out.size; have := h4.size; omega) ?_
                intro v3 w9 hown2 hg2 _ _
                obtain ⟨ao3, L3, cp3, rfl, _⟩ := owns_name hown2
                have hg3 : World.grownBy _ w9 (Value.slice ao pre.length cp).ownBlock := hg2
                have h5 : Chg (fun q => (Value.slice ao pre.length cp).ownBlock = some q) W w9 := (Chg.mono h4 (fun _ _ h => h.elim)).grown hg3 (fun k e => .inl e)
                have b1 : ∀ q, (Value.slice ao pre.length cp).ownBlock = some q → w6.heap.size ≤ q := fun q e => (HO.out.lt q e).1
                have n0 : ¬ (Value.slice ao pre.length cp).ownBlock = some (World.heap (w3)).size := fun e => by have := b1 _ e; omega
                have n1 : ¬ (Value.slice ao pre.length cp).ownBlock = some (w.heap.size + 1) := fun e => by have := b1 _ e; omega
                have n2 : ¬ (Value.slice ao pre.length cp).ownBlock = some (w.heap.size + 1 + 1) := fun e => by have := b1 _ e; omega
                have n3 : ¬ (Value.slice ao pre.length cp).ownBlock = some bb := fun e => by have := b1 _ e; omega
                have d5 := h5.cell c2 n0
                have f5 := h5.frozen c2 f2 n0
                have hK5 := ((keeps_chg h4).trans (mkeeps_grown (HO.out.fr h4) hg3))
                have hown4 : OwnS w9 w6.heap.size (.slice ao3 L3 cp3) (List.zipWith kf (s) (pre ++ [x])) := by
                  rw [zip_snoc kf (s) pre x hj, HM.out, HY.out]
                  unfold OwnS
                  rw [List.length_append, flatS_snoc]
                  exact hown2
                clear hg2 hown2
                go_simp
                refine hK.out _ _ ⟨h5.cell q2 n1, h5.cell q3 n2, h5.cell q1 n3⟩ (fun hHeld => ?_)
                clear hK K
                refine wpAnyH_ready (rs := [11]) (by kernel_rfl) (by simp) ?_
                refine AllReadyH.cons rfl (fun K hK => ?_) AllReadyH.nil
                go_simp
                have hX : Chg (fun q => (Value.slice ao pre.length cp).ownBlock = some q ∨ q = (World.heap (w3)).size) W (w9.setCell ⟨(World.heap (w3)).size, 0, none⟩ (.slice ao3 L3 cp3)) := h5.trans ((Chg.refl (fun q => q = (World.heap (w3)).size) w9).setCell (p := ⟨(World.heap (w3)).size, 0, none⟩) (.inl rfl) _) (fun _ _ h => .inl h) (fun _ _ h => .inr h)
                refine hK.out _ _ ⟨hX.cell q2 (fun h => h.elim n1 (fun e => by have e : w.heap.size + 1 = (World.heap (w3)).size := e; omega)), hX.cell q3 (fun h => h.elim n2 (fun e => by have e : w.heap.size + 1 + 1 = (World.heap (w3)).size := e; omega)), hX.cell q1 (fun h => h.elim n3 (fun e => by have e : bb = (World.heap (w3)).size := e; omega))⟩ (fun hHeld => ?_)
                clear hK K
                refine wpAnyH_done (by kernel_rfl) ?_ _
                refine onlyN_end ?_
                refine ⟨(hK5.trans (KeepsOthers.setCell _ _ _)).from _, Keep.of_chg hX (fun q hq => ?_), ⟨⟨_, World.cell?_setCell_same' _ _ _ (by rw [d5]; rfl), by rw [World.frozen?_setCell]; exact f5, ownsRow_setCell_below hown4 (a := ⟨(World.heap (w3)).size, 0, none⟩) hob _⟩, HCW.out.trans hX (fun _ _ h => h) (fun i hi h => ?_)⟩⟩
                · have hsW := HCW.out.size
                  exact ⟨by omega, fun h => h.elim (fun e => by have := b1 q e; omega) (fun e => by omega)⟩
                · rcases h with h | h
                  · have := b1 _ h
                    omega
                  · exact h
              · skip
                go_simp
                refine hkc.mono ?_
                clear hkc
                rintro e9 W3 ⟨rfl, hC3⟩
                have h3 : Chg (fun _ => False) W W3 := ((Chg.refl _ W).drew).tr hC3
                have d3 := h3.cell c2 id
                refine hK.out _ _ ⟨h3.cell q2 id, h3.cell q3 id, h3.cell q1 id⟩ (fun hHeld => ?_)
                clear hK K
                refine wpAnyH_ready (rs := [0, 9]) (by kernel_rfl) (by simp) ?_
                refine AllReadyH.cons rfl (fun K hK => ?_) (AllReadyH.cons rfl (fun K hK => ?_) AllReadyH.nil)
                · go_simp
                  refine hK.out _ _ ⟨h3.cell q2 id, h3.cell q3 id, h3.cell q1 id⟩ (fun hHeld => ?_)
                  clear hK K
                  refine wpAnyH_ready (rs := [9]) (by kernel_rfl) (by simp) ?_
                  refine AllReadyH.cons rfl (fun K hK => ?_) AllReadyH.nil
                  go_simp
                  have h4 := h3.alloc (.cells #[.int .i64 p1, .int .i64 p2, .int .i64 p3] 117)
                  have d4 := h4.cell c2 id
                  refine hK.out _ _ ⟨h4.cell q2 id, h4.cell q3 id, h4.cell q1 id⟩ (fun hHeld => ?_)
                  clear hK K
                  refine wpAnyH_ready (rs := [10]) (by kernel_rfl) (by simp) ?_
                  refine AllReadyH.cons rfl (fun K hK => ?_) AllReadyH.nil
                  refine step_append_own rfl (.tmp 44) (.tmp 53) 84 rfl w6.heap.size 117 i0 (.agg #[.int .i64 0, .int .i64 0, .int .i64 0]) 3 24 Try.underlying84 hi hz0 hz1 hz2 rfl (by decide) _ _ _ rfl (HO.out.fr h4) (some ⟨W3.heap.size, 0, none⟩) 1 1 (spL ⟨p1, p2, p3⟩) rfl rfl (fun j u hu => ⟨_, rfl, by rw [Addr.add_lit, Nat.zero_add]; exact new_cell W3 _ _ (by simpa [spL] using hu)⟩) (by simp [spL, Value.oneCell']) (by rw [List.length_zipWith]; have := HBL.out; have := HLE.out; unfold maxLen; omega) (by rw [List.length_zipWith]; have := HBL.out; have := HLE.out; omega) (by have := HCW.out.size; have := h4.size; omega) ?_
                  intro v3 w9 hown2 hg2 _ _
                  obtain ⟨ao3, L3, cp3, rfl, _⟩ := owns_name hown2
                  have hg3 : World.grownBy _ w9 (Value.slice ao pre.length cp).ownBlock := hg2
                  have h5 : Chg (fun q => (Value.slice ao pre.length cp).ownBlock = some q) W w9 := (Chg.mono h4 (fun _ _ h => h.elim)).grown hg3 (fun k e => .inl e)
                  have b1 : ∀ q, (Value.slice ao pre.length cp).ownBlock = some q → w6.heap.size ≤ q := fun q e => (HO.out.lt q e).1
                  have n0 : ¬ (Value.slice ao pre.length cp).ownBlock = some (World.heap (w3)).size := fun e => by have := b1 _ e; omega
                  have n1 : ¬ (Value.slice ao pre.length cp).ownBlock = some (w.heap.size + 1) := fun e => by have := b1 _ e; omega
                  have n2 : ¬ (Value.slice ao pre.length cp).ownBlock = some (w.heap.size + 1 + 1) := fun e => by have := b1 _ e; omega
                  have n3 : ¬ (Value.slice ao pre.length cp).ownBlock = some bb := fun e => by have := b1 _ e; omega
                  have d5 := h5.cell c2 n0
                  have f5 := h5.frozen c2 f2 n0
                  have hK5 := ((keeps_chg h4).trans (mkeeps_grown (HO.out.fr h4) hg3))
                  have hown4 : OwnS w9 w6.heap.size (.slice ao3 L3 cp3) (List.zipWith kf (s) (pre ++ [x])) := by
                    rw [zip_snoc kf (s) pre x hj, HM.out, HY.out]
                    unfold OwnS
                    rw [List.length_append, flatS_snoc]
                    exact hown2
                  clear hg2 hown2
                  go_simp
                  refine hK.out _ _ ⟨h5.cell q2 n1, h5.cell q3 n2, h5.cell q1 n3⟩ (fun hHeld => ?_)
                  clear hK K
                  refine wpAnyH_ready (rs := [11]) (by kernel_rfl) (by simp) ?_
                  refine AllReadyH.cons rfl (fun K hK => ?_) AllReadyH.nil
                  go_simp
                  have hX : Chg (fun q => (Value.slice ao pre.length cp).ownBlock = some q ∨ q = (World.heap (w3)).size) W (w9.setCell ⟨(World.heap (w3)).size, 0, none⟩ (.slice ao3 L3 cp3)) := h5.trans ((Chg.refl (fun q => q = (World.heap (w3)).size) w9).setCell (p := ⟨(World.heap (w3)).size, 0, none⟩) (.inl rfl) _) (fun _ _ h => .inl h) (fun _ _ h => .inr h)
                  refine hK.out _ _ ⟨hX.cell q2 (fun h => h.elim n1 (fun e => by have e : w.heap.size + 1 = (World.heap (w3)).size := e; omega)), hX.cell q3 (fun h => h.elim n2 (fun e => by have e : w.heap.size + 1 + 1 = (World.heap (w3)).size := e; omega)), hX.cell q1 (fun h => h.elim n3 (fun e => by have e : bb = (World.heap (w3)).size := e; omega))⟩ (fun hHeld => ?_)
                  clear hK K
                  refine wpAnyH_done (by kernel_rfl) ?_ _
                  refine onlyN_end ?_
                  refine ⟨(hK5.trans (KeepsOthers.setCell _ _ _)).from _, Keep.of_chg hX (fun q hq => ?_), ⟨⟨_, World.cell?_setCell_same' _ _ _ (by rw [d5]; rfl), by rw [World.frozen?_setCell]; exact f5, ownsRow_setCell_below hown4 (a := ⟨(World.heap (w3)).size, 0, none⟩) hob _⟩, HCW.out.trans hX (fun _ _ h => h) (fun i hi h => ?_)⟩⟩
                  · have hsW := HCW.out.size
                    exact ⟨by omega, fun h => h.elim (fun e => by have := b1 q e; omega) (fun e => by omega)⟩
                  · rcases h with h | h
                    · have := b1 _ h
                      omega
                    · exact h
                · go_simp
                  have h4 := h3.alloc (.cells #[.int .i64 p1, .int .i64 p2, .int .i64 p3] 117)
                  have d4 := h4.cell c2 id
                  refine hK.out _ _ ⟨h4.cell q2 id, h4.cell q3 id, h4.cell q1 id⟩ (fun hHeld => ?_)
                  clear hK K
                  refine wpAnyH_ready (rs := [0]) (by kernel_rfl) (by simp) ?_
                  refine AllReadyH.cons rfl (fun K hK => ?_) AllReadyH.nil
                  go_simp
                  refine hK.out _ _ ⟨h4.cell q2 id, h4.cell q3 id, h4.cell q1 id⟩ (fun hHeld => ?_)
                  clear hK K
                  refine wpAnyH_ready (rs := [10]) (by kernel_rfl) (by simp) ?_
                  refine AllReadyH.cons rfl (fun K hK => ?_) AllReadyH.nil
                  refine step_append_own rfl (.tmp 44) (.tmp 53) 84 rfl w6.heap.size 117 i0 (.agg #[.int .i64 0, .int .i64 0, .int .i64 0]) 3 24 Try.underlying84 hi hz0 hz1 hz2 rfl (by decide) _ _ _ rfl (HO.out.fr h4) (some ⟨W3.heap.size, 0, none⟩) 1 1 (spL ⟨p1, p2, p3⟩) rfl rfl (fun j u hu => ⟨_, rfl, by rw [Addr.add_lit, Nat.zero_add]; exact new_cell W3 _ _ (by simpa [spL] using hu)⟩) (by simp [spL, Value.oneCell']) (by rw [List.length_zipWith]; have := HBL.out; have := HLE.out; unfold maxLen; omega) (by rw [List.length_zipWith]; have := HBL.out; have := HLE.out; omega) (by have := HCW.out.size; have := h4.size; omega) ?_
                  intro v3 w9 hown2 hg2 _ _
                  obtain ⟨ao3, L3, cp3, rfl, _⟩ := owns_name hown2
                  have hg3 : World.grownBy _ w9 (Value.slice ao pre.length cp).ownBlock := hg2
                  have h5 : Chg (fun q => (Value.slice ao pre.length cp).ownBlock = some q) W w9 := (Chg.mono h4 (fun _ _ h => h.elim)).grown hg3 (fun k e => .inl e)
                  have b1 : ∀ q, (Value.slice ao pre.length cp).ownBlock = some q → w6.heap.size ≤ q := fun q e => (HO.out.lt q e).1
                  have n0 : ¬ (Value.slice ao pre.length cp).ownBlock = some (World.heap (w3)).size := fun e => by have := b1 _ e; omega
                  have n1 : ¬ (Value.slice ao pre.length cp).ownBlock = some (w.heap.size + 1) := fun e => by have := b1 _ e; omega
                  have n2 : ¬ (Value.slice ao pre.length cp).ownBlock = some (w.heap.size + 1 + 1) := fun e => by have := b1 _ e; omega
                  have n3 : ¬ (Value.slice ao pre.length cp).ownBlock = some bb := fun e => by have := b1 _ e; omega
                  have d5 := h5.cell c2 n0
                  have f5 := h5.frozen c2 f2 n0
                  have hK5 := ((keeps_chg h4).trans (mkeeps_grown (HO.out.fr h4) hg3))
                  have hown4 : OwnS w9 w6.heap.size (.slice ao3 L3 cp3) (List.zipWith kf (s) (pre ++ [x])) := by
                    rw [zip_snoc kf (s) pre x hj, HM.out, HY.out]
                    unfold OwnS
                    rw [List.length_append, flatS_snoc]
                    exact hown2
                  clear hg2 hown2
                  go_simp
                  refine hK.out _ _ ⟨h5.cell q2 n1, h5.cell q3 n2, h5.cell q1 n3⟩ (fun hHeld => ?_)
                  clear hK K
                  refine wpAnyH_ready (rs := [11]) (by kernel_rfl) (by simp) ?_
                  refine AllReadyH.cons rfl (fun K hK => ?_) AllReadyH.nil
                  go_simp
                  have hX : Chg (fun q => (Value.slice ao pre.length cp).ownBlock = some q ∨ q = (World.heap (w3)).size) W (w9.setCell ⟨(World.heap (w3)).size, 0, none⟩ (.slice ao3 L3 cp3)) := h5.trans ((Chg.refl (fun q => q = (World.heap (w3)).size) w9).setCell (p := ⟨(World.heap (w3)).size, 0, none⟩) (.inl rfl) _) (fun _ _ h => .inl h) (fun _ _ h => .inr h)
                  refine hK.out _ _ ⟨hX.cell q2 (fun h => h.elim n1 (fun e => by have e : w.heap.size + 1 = (World.heap (w3)).size := e; omega)), hX.cell q3 (fun h => h.elim n2 (fun e => by have e : w.heap.size + 1 + 1 = (World.heap (w3)).size := e; omega)), hX.cell q1 (fun h => h.elim n3 (fun e => by have e : bb = (World.heap (w3)).size := e; omega))⟩ (fun hHeld => ?_)
                  clear hK K
                  refine wpAnyH_done (by kernel_rfl) ?_ _
                  refine onlyN_end ?_
                  refine ⟨(hK5.trans (KeepsOthers.setCell _ _ _)).from _, Keep.of_chg hX (fun q hq => ?_), ⟨⟨_, World.cell?_setCell_same' _ _ _ (by rw [d5]; rfl), by rw [World.frozen?_setCell]; exact f5, ownsRow_setCell_below hown4 (a := ⟨(World.heap (w3)).size, 0, none⟩) hob _⟩, HCW.out.trans hX (fun _ _ h => h) (fun i hi h => ?_)⟩⟩
                  · have hsW := HCW.out.size
                    exact ⟨by omega, fun h => h.elim (fun e => by have := b1 q e; omega) (fun e => by omega)⟩
                  · rcases h with h | h
                    · have := b1 _ h
                      omega
                    · exact h
          case donea =>
            rintro D xs W hD rfl ⟨⟨v, c2, f2, hown⟩, hC⟩ hK
            obtain ⟨ao, L, cp, rfl, hL⟩ := owns_name (show World.ownsRow _ _ _ _ _ _ _ from hown)
            have hCw := HHC6.out
            clear ob ofz sb kb sf sb6 kb6 r6
            go_wp2
            exact sp_leave hK (by have := hCw.size; omega) (hCw.trans hC (fun _ _ h => h) (fun i hi e => by omega)) (by have := hCw.size; omega) hown rfl rfl
          case stopa => exact fun _ _ _ _ _ _ h => h.elim
        · have hN := HN.out
          rw [hsh, if_pos rfl, if_pos rfl, if_neg hln] at hN
          have hF := HF.out
          rw [hN, if_neg (by decide)] at hF
          subst hN hF
          have b1 : ((X.length : Int) != (s.length : Int)) = true := bne_iff_ne.2 (by omega)
          clear hsh hs0 hS0
          go_wp2
          exact sp_no HC.out rfl rfl
    · have hN := HN.out
      rw [hsh, if_pos rfl, if_neg hM0] at hN
      have hF := HF.out
      rw [hN, if_neg hM0] at hF
      subst hN hF
      have b1 : (N != 0) = true := bne_iff_ne.2 hM0
      clear hsh
      go_wp2
      exact sp_no HC.out rfl rfl
end Go.Proofs.Ytceooipljhjpaaa
