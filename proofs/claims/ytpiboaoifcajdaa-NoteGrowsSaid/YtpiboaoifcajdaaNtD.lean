/- How many tiles are done, how many steps there are. -/
import Derived.Test.YtpiboaoifcajdaaNtZ
import Derived.Maps.RangeWalk
import Derived.Lib.MinMax
namespace Go.Proofs.Ytpiboaoifcajdaa
open Go.RowKit Go.Shelf Go.Maps
attribute [local go_sem] Oper.semAt_some

theorem in64_wf {n : Int} (h : (Lit.int .i64 n).wf = true) : In64 n := by
  simp [Lit.wf, IntKind.min, IntKind.max, IntKind.signed, IntKind.bits] at h
  unfold In64
  omega
/-- What reads as a place is one. -/
theorem key_inv (key : Value) (kl : Lit) (h : keyOf Try.prog 80 key = some kl) : ∃ x : Int × Int × Int, key = keyV x.1 x.2.1 x.2.2 := by
  unfold keyOf at h
  rw [Try.underlying80] at h
  simp only [place_keyType, Bool.true_and] at h
  obtain ⟨n, hn⟩ := types_size
  rw [hn] at h
  by_cases hf : key.formed Try.prog 80 = true
  · rw [if_pos hf] at h
    cases key <;> simp [Value.formed, Try.underlying80, place_cells] at hf
    rename_i cs
    obtain ⟨l, hl⟩ : ∃ l, cs.toList = l := ⟨_, rfl⟩
    have hcs : cs = l.toArray := by rw [← hl]
    subst hcs
    clear hl
    simp at hf
    match l, hf with
    | [a, b, c], _ =>
      simp only [Value.cells, Program.keyLits, Try.underlying80, place_cells] at h
      have ha : ∃ x, a = .int .i64 x := by
        cases a <;> simp [Try.underlying3, int_cells] at h
        rename_i q x _
        by_cases hq : q = .i64
        · exact ⟨x, by rw [hq]⟩
        · simp [hq] at h
      obtain ⟨x, rfl⟩ := ha
      have hb : ∃ x, b = .int .i64 x := by
        cases b <;> simp [Try.underlying3, int_cells] at h
        rename_i q x _
        by_cases hq : q = .i64
        · exact ⟨x, by rw [hq]⟩
        · simp [hq] at h
          split at h <;> simp at h
      obtain ⟨y, rfl⟩ := hb
      have hc : ∃ x, c = .int .i64 x := by
        cases c <;> simp [Try.underlying3, int_cells] at h
        rename_i q x _
        by_cases hq : q = .i64
        · exact ⟨x, by rw [hq]⟩
        · simp [hq] at h
          split at h <;> simp at h
      obtain ⟨z, rfl⟩ := hc
      exact ⟨(x, y, z), rfl⟩
  · rw [if_neg hf] at h
    cases h
theorem key_in64 {k a b : Int} {kl : Lit} (h : keyOf Try.prog 80 (keyV k a b) = some kl) : In64 k ∧ In64 a ∧ In64 b := by
  unfold keyOf at h
  rw [Try.underlying80] at h
  simp only [place_keyType, Bool.true_and] at h
  have hf : (keyV k a b).formed Try.prog 80 = true := by simp [keyV, Value.formed, Try.underlying80, place_cells]
  rw [hf] at h
  obtain ⟨n, hn⟩ := types_size
  rw [hn] at h
  simp [keyV, Value.cells, Program.keyLits, Try.underlying80, Try.underlying3, place_cells, int_cells] at h
  by_cases h1 : (Lit.int .i64 k).wf = true
  · by_cases h2 : (Lit.int .i64 a).wf = true
    · by_cases h3 : (Lit.int .i64 b).wf = true
      · exact ⟨in64_wf h1, in64_wf h2, in64_wf h3⟩
      · rw [if_neg h3] at h; simp at h; split at h <;> simp at h
    · rw [if_neg h2] at h; simp at h; split at h <;> simp at h
  · rw [if_neg h1] at h; simp at h
theorem fileOf_some : ∀ (l : List Nt) (k a b : Int), (fileOf l k a b).isSome = true ↔ ∃ x ∈ l, x.k = k ∧ x.a = a ∧ x.b = b
  | [], _, _, _ => by simp [fileOf]
  | x :: r, k, a, b => by
    unfold fileOf
    by_cases h : x.k = k ∧ x.a = a ∧ x.b = b
    · rw [if_pos h]
      exact ⟨fun _ => ⟨x, List.mem_cons_self .., h⟩, fun _ => rfl⟩
    · rw [if_neg h, fileOf_some r k a b]
      exact ⟨fun ⟨y, hy, e⟩ => ⟨y, List.mem_cons_of_mem _ hy, e⟩, fun ⟨y, hy, e⟩ => by
        rcases List.mem_cons.1 hy with rfl | hy
        · exact absurd e h
        · exact ⟨y, hy, e⟩⟩
/-- One note of each place. -/
def uniq : List Nt → List Nt
  | [] => []
  | x :: r => if (fileOf r x.k x.a x.b).isSome then uniq r else x :: uniq r
theorem uniq_sub : ∀ (l : List Nt), ∀ x ∈ uniq l, x ∈ l
  | [], _, h => h
  | y :: r, x, h => by
    unfold uniq at h
    split at h
    · exact List.mem_cons_of_mem _ (uniq_sub r x h)
    · rcases List.mem_cons.1 h with rfl | h
      · exact List.mem_cons_self ..
      · exact List.mem_cons_of_mem _ (uniq_sub r x h)
theorem uniq_apart : ∀ (l : List Nt), (uniq l).Pairwise fun x y => ¬ (x.k = y.k ∧ x.a = y.a ∧ x.b = y.b)
  | [] => List.Pairwise.nil
  | y :: r => by
    unfold uniq
    split
    · exact uniq_apart r
    · rename_i h
      refine List.Pairwise.cons (fun x hx e => h ((fileOf_some r y.k y.a y.b).2 ⟨x, uniq_sub r x hx, e.1.symm, e.2.1.symm, e.2.2.symm⟩)) (uniq_apart r)
theorem uniq_has : ∀ (l : List Nt) (k a b : Int), (fileOf l k a b).isSome = true → ∃ x ∈ uniq l, x.k = k ∧ x.a = a ∧ x.b = b
  | [], _, _, _, h => by simp [fileOf] at h
  | y :: r, k, a, b, h => by
    unfold fileOf at h
    unfold uniq
    by_cases hr : (fileOf r k a b).isSome = true
    · obtain ⟨x, hx, e⟩ := uniq_has r k a b hr
      split
      · exact ⟨x, hx, e⟩
      · exact ⟨x, List.mem_cons_of_mem _ hx, e⟩
    · by_cases hy : y.k = k ∧ y.a = a ∧ y.b = b
      · rw [if_neg (by rw [hy.1, hy.2.1, hy.2.2]; exact hr)]
        exact ⟨y, List.mem_cons_self .., hy⟩
      · rw [if_neg hy] at h
        exact absurd h hr
noncomputable def litN (x : Nt) : Lit := keyL x.k x.a x.b
theorem litN_key {x : Nt} (h : x.ok) : WideAt.IsKeyLit (litN x) := key_lit h.1 h.2.1 h.2.2.1
theorem litN_same {x y : Nt} (hx : x.ok) (hy : y.ok) : (litN x).sameKey (litN y) = true ↔ x.k = y.k ∧ x.a = y.a ∧ x.b = y.b := by
  rw [WideAt.sameKey_iff (litN_key hy)]
  exact ⟨keyL_inj hx.1 hx.2.1 hx.2.2.1 hy.1 hy.2.1 hy.2.2.1, fun e => by unfold litN; rw [e.1, e.2.1, e.2.2]⟩
/-- Those of a step's tiles that a walk has come by. -/
noncomputable def seenN (left : Lit → Bool) (q : Nt → Bool) (U : List Nt) : Nat := (U.filter fun x => q x && !left (litN x)).length
theorem seen_other (left : Lit → Bool) (kl : Lit) (q : Nt → Bool) : ∀ (U : List Nt), (∀ x ∈ U, (litN x).sameKey kl = false) → seenN (fun z => left z && !z.sameKey kl) q U = seenN left q U
  | [], _ => rfl
  | x :: r, h => by
    have ih := seen_other left kl q r (fun y hy => h y (List.mem_cons_of_mem _ hy))
    have e : (q x && !(left (litN x) && !(litN x).sameKey kl)) = (q x && !left (litN x)) := by rw [h x (List.mem_cons_self ..)]; simp
    unfold seenN at *
    rw [List.filter_cons, List.filter_cons, e]
    split
    · rw [List.length_cons, List.length_cons, ih]
    · exact ih
theorem seen_step (left : Lit → Bool) (q : Nt → Bool) (x0 : Nt) (h0 : left (litN x0) = true) : ∀ (U : List Nt), U.Pairwise (fun x y => ¬ (x.k = y.k ∧ x.a = y.a ∧ x.b = y.b)) → (∀ x ∈ U, x.ok) → x0 ∈ U →
    seenN (fun z => left z && !z.sameKey (litN x0)) q U = seenN left q U + (if q x0 then 1 else 0)
  | x :: r, hU, hok, hx => by
    have hp := List.pairwise_cons.1 hU
    have hokx := hok x (List.mem_cons_self ..)
    have hok0 := hok x0 hx
    have hokr := fun y (hy : y ∈ r) => hok y (List.mem_cons_of_mem _ hy)
    by_cases he : x = x0
    · subst he
      have hr := seen_other left (litN x) q r (fun y hy => by
        exact Bool.eq_false_iff.2 (fun h => by obtain ⟨e1, e2, e3⟩ := (litN_same (hokr y hy) hokx).1 h; exact hp.1 y hy ⟨e1.symm, e2.symm, e3.symm⟩))
      have e1 : (q x && !(left (litN x) && !(litN x).sameKey (litN x))) = q x := by rw [(litN_same hokx hokx).2 ⟨rfl, rfl, rfl⟩]; simp
      have e2 : (q x && !left (litN x)) = false := by rw [h0]; simp
      unfold seenN at *
      rw [List.filter_cons, List.filter_cons, e1, e2, if_neg (by simp : ¬ false = true)]
      split
      · rw [List.length_cons, hr]
      · rw [hr]; rfl
    · have hx0 : x0 ∈ r := by rcases List.mem_cons.1 hx with e | h; exact absurd e.symm he; exact h
      have ih := seen_step left q x0 h0 r hp.2 hokr hx0
      have hne : (litN x).sameKey (litN x0) = false := Bool.eq_false_iff.2 (fun h => hp.1 x0 hx0 ((litN_same hokx hok0).1 h))
      have e : (q x && !(left (litN x) && !(litN x).sameKey (litN x0))) = (q x && !left (litN x)) := by rw [hne]; simp
      unfold seenN at *
      rw [List.filter_cons, List.filter_cons, e]
      split
      · rw [List.length_cons, List.length_cons, ih]; omega
      · exact ih
theorem seen_none (left : Lit → Bool) (q : Nt → Bool) (U : List Nt) (h : ∀ kl, left kl = false) : seenN left q U = (U.filter q).length := by
  unfold seenN
  congr 1
  apply List.filter_congr
  intro x _
  rw [h]
  simp
theorem seen_all (left : Lit → Bool) (q : Nt → Bool) (U : List Nt) (h : ∀ x ∈ U, left (litN x) = true) : seenN left q U = 0 := by
  unfold seenN
  rw [List.filter_eq_nil_iff.2 (fun x hx => by rw [h x hx]; simp)]
  rfl
theorem uniq_len : ∀ (l : List Nt), (uniq l).length ≤ l.length
  | [] => Nat.le_refl _
  | x :: r => by
    have := uniq_len r
    unfold uniq
    split
    · rw [List.length_cons]; omega
    · rw [List.length_cons, List.length_cons]; omega
theorem seen_le (left : Lit → Bool) (q : Nt → Bool) (l : List Nt) : seenN left q (uniq l) ≤ l.length := Nat.le_trans (List.length_filter_le _ _) (uniq_len l)
/-- A key that comes up is a place of the notes. -/
theorem comes {fl : List Nt} (hok : ∀ x ∈ fl, x.ok) {left : Lit → Bool} (hsub : ∀ kl, left kl = true → has (fileD fl) kl = true) {k a b : Int} {kl : Lit} (hkey : keyOf Try.prog 80 (keyV k a b) = some kl) (hl : left kl = true) :
    ∃ x ∈ uniq fl, x.k = k ∧ x.a = a ∧ x.b = b ∧ kl = litN x ∧ left (litN x) = true := by
  obtain ⟨hk, ha, hb⟩ := key_in64 hkey
  have e := keyL_of hk ha hb
  rw [hkey] at e
  have e := Option.some.inj e
  subst e
  have hh := hsub _ hl
  rw [(fileD_look fl k a b hk ha hb hok).1] at hh
  obtain ⟨x, hx, rfl, rfl, rfl⟩ := uniq_has fl k a b hh
  exact ⟨x, hx, rfl, rfl, rfl, rfl, hl⟩
theorem has_all {fl : List Nt} (hok : ∀ x ∈ fl, x.ok) : ∀ x ∈ uniq fl, has (fileD fl) (litN x) = true := fun x hx => by
  have h := hok x (uniq_sub fl x hx)
  rw [litN, (fileD_look fl x.k x.a x.b h.1 h.2.1 h.2.2.1 hok).1]
  exact (fileOf_some fl _ _ _).2 ⟨x, uniq_sub fl x hx, rfl, rfl, rfl⟩
theorem int_inv (v : Value) (y : DataW Unit × List MemPlace) (h : plainElem (H := Unit) Try.prog 2 v = some y) : ∃ c : Int, v = .int .i64 c := by
  obtain ⟨c, rfl, _⟩ := plainElem_int_inv Try.underlying2 h
  exact ⟨c, rfl⟩
def doneQ (s : Int) (x : Nt) : Bool := decide (x.k = 2 ∧ x.a = s)
/-- How many of a step's tiles are done. -/
def doneN (fl : List Nt) (s : Int) : Nat := ((uniq fl).filter (doneQ s)).length
set_option maxRecDepth 100000 in
set_option maxHeartbeats 1000000 in
theorem done_any {W : World} {lb mb base : Nat} {t : St} {v : Value} (h : LogAt W lb mb base t v) (hok : ∀ x ∈ t.fl, x.ok) (hlen : t.fl.length ≤ 1000000) (s : Int) : Calls Try.prog 20 #[.pointer (some ⟨lb, 0, none⟩), .int .i64 s] W (fun e w' => e = .returned (.int .i64 (doneN t.fl s : Nat)) ∧ Chg (fun _ => False) W w') := by
  have h2 := h.c2
  go_enter Try.func20, Try.ntmps20
  go_wp2_with (first | (at_range; refine wpList_range_own _ rfl _ 73 rfl 80 2 place_keyed Try.underlying73 (plainElem (H := Unit) Try.prog 2) mb t.fl.length (fileD t.fl) rfl h.fil ?_; intro w0 hrg0 hg0 hs0))
  go_frame
  go_loopw [5] (fun x wr => ∃ (left : Lit → Bool) (cnt k : Nat), x = .int .i64 k ∧ wr.ranges Try.prog 80 (plainElem (H := Unit) Try.prog 2) mb W.heap.size t.fl.length (fileD t.fl) left cnt ∧ (∀ kl, left kl = true → has (fileD t.fl) kl = true) ∧ k = seenN left (doneQ s) (uniq t.fl) ∧ Chg (fun _ => False) W wr)
    (fun _ wr => wr.rangeLeft mb W.heap.size)
  case atStart => exact ⟨_, _, 0, rfl, hrg0, fun _ h => h, (seen_all _ _ _ (has_all hok)).symm, (Chg.refl _ W).grown hg0 (fun _ e => by cases e)⟩
  case round =>
    obtain ⟨left, cnt, k, rfl, hrg, hsub, hk, hC⟩ := hrel
    have HK := Lib.hid hk
    clear hk
    go_wp2_with (at_next; refine wpList_next_ranges _ rfl _ rfl 80 place_keyed (plainElem (H := Unit) Try.prog 2) (fun x : Int × Int × Int => keyV x.1 x.2.1 x.2.2) (fun c : Int => .int .i64 c) key_inv int_inv mb W.heap.size t.fl.length (fileD t.fl) left cnt rfl hrg ?_ ?_)
    · intro _ hl
      go_wp2
      go_ret
      exact ⟨by rw [HK.out, seen_none left _ _ hl]; rfl, hC⟩
    · intro k' a b c kl _ _ w1 cnt1 hkey hlk _ _ hrg1 hlt hg1 hs1 hen
      simp only [keyV] at hen
      obtain ⟨x0, hx0, rfl, rfl, rfl, rfl, hl0⟩ := comes hok hsub hkey hlk
      have hst := seen_step left (doneQ s) x0 hl0 (uniq t.fl) (uniq_apart t.fl) (fun x hx => hok x (uniq_sub t.fl x hx)) hx0
      have hC1 := hC.grown hg1 (fun q e => .inr (by have := Option.some.inj e; omega))
      have hk9 : k ≤ 1000000 := by rw [HK.out]; exact Nat.le_trans (seen_le _ _ _) hlen
      have hkw : IntKind.i64.wrap ((k : Int) + 1) = (k : Int) + 1 := IntWalk.i64_in _ (by omega)
      have hsub2 : ∀ kl, (left kl && !kl.sameKey (litN x0)) = true → has (fileD t.fl) kl = true := fun kl h => hsub kl (Bool.and_eq_true _ _ ▸ h).1
      have HS := Lib.hid hst
      clear hst
      by_cases h4 : x0.k = 2
      · by_cases h5 : x0.a = s
        · have hq : doneQ s x0 = true := decide_eq_true ⟨h4, h5⟩
          go_wp2
          refine ⟨⟨_, cnt1, k + 1, by congr 1, hrg1.alloc _, hsub2, ?_, hC1.alloc _⟩, ?_⟩
          · rw [HS.out, hq, HK.out]; rfl
          · rw [(hrg1.alloc _).left_eq, hrg.left_eq]; exact hlt
        · have hq : doneQ s x0 = false := decide_eq_false (fun h => h5 h.2)
          go_wp2
          refine ⟨⟨_, cnt1, k, rfl, hrg1.alloc _, hsub2, ?_, hC1.alloc _⟩, ?_⟩
          · rw [HS.out, hq, HK.out]; rfl
          · rw [(hrg1.alloc _).left_eq, hrg.left_eq]; exact hlt
      · have hq : doneQ s x0 = false := decide_eq_false (fun h => h4 h.1)
        go_wp2
        refine ⟨⟨_, cnt1, k, rfl, hrg1.alloc _, hsub2, ?_, hC1.alloc _⟩, ?_⟩
        · rw [HS.out, hq, HK.out]; rfl
        · rw [(hrg1.alloc _).left_eq, hrg.left_eq]; exact hlt
theorem done_none (s : Int) (W : World) : Calls Try.prog 20 #[.pointer none, .int .i64 s] W (fun e w' => e = .returned (.int .i64 0) ∧ Chg (fun _ => False) W w') := by
  go_enter Try.func20, Try.ntmps20
  go_wp2
  go_ret
  exact ⟨rfl, Chg.refl _ _⟩
/-- How many steps there are. -/
def stN : List Nt → Int
  | [] => 0
  | x :: r => max (stN r) (x.a + 1)
theorem stN_spec : ∀ (l : List Nt), 0 ≤ stN l ∧ (∀ x ∈ l, x.a + 1 ≤ stN l) ∧ (stN l = 0 ∨ ∃ x ∈ l, stN l = x.a + 1)
  | [] => ⟨Int.le_refl _, fun x h => by simp at h, .inl rfl⟩
  | x :: r => by
    obtain ⟨h1, h2, h3⟩ := stN_spec r
    unfold stN
    refine ⟨by omega, fun y hy => ?_, ?_⟩
    · rcases List.mem_cons.1 hy with rfl | hy
      · omega
      · have := h2 y hy; omega
    · by_cases h : stN r ≤ x.a + 1
      · exact .inr ⟨x, List.mem_cons_self .., by omega⟩
      · rw [show max (stN r) (x.a + 1) = stN r by omega]
        exact h3.imp id fun ⟨y, hy, e⟩ => ⟨y, List.mem_cons_of_mem _ hy, e⟩
/-- What a walk has come by. -/
def StL (left : Lit → Bool) (U : List Nt) (m : Int) : Prop := (m = 0 ∨ ∃ y ∈ U, m = y.a + 1) ∧ (∀ y ∈ U, left (litN y) = false → y.a + 1 ≤ m) ∧ 0 ≤ m ∧ m ≤ 1048577
theorem StL.start {fl : List Nt} (hok : ∀ x ∈ fl, x.ok) : StL (has (fileD fl)) (uniq fl) 0 :=
  ⟨.inl rfl, fun y hy hl => (by rw [has_all hok y hy] at hl; cases hl), by omega, by omega⟩
theorem StL.done {left : Lit → Bool} {fl : List Nt} {m : Int} (h : StL left (uniq fl) m) (hl : ∀ kl, left kl = false) : m = stN fl := by
  obtain ⟨h1, h2, h3, _⟩ := h
  obtain ⟨g1, g2, g3⟩ := stN_spec fl
  have a1 : m ≤ stN fl := by
    rcases h1 with rfl | ⟨y, hy, rfl⟩
    · exact g1
    · exact g2 y (uniq_sub fl y hy)
  have a2 : stN fl ≤ m := by
    rcases g3 with g | ⟨x, hx, g⟩
    · omega
    · obtain ⟨y, hy, _, ea, _⟩ := uniq_has fl x.k x.a x.b ((fileOf_some fl _ _ _).2 ⟨x, hx, rfl, rfl, rfl⟩)
      have := h2 y hy (hl _)
      omega
  omega
theorem StL.step {left : Lit → Bool} {fl : List Nt} {m : Int} (hok : ∀ x ∈ fl, x.ok) (h : StL left (uniq fl) m) {x0 : Nt} (hx : x0 ∈ uniq fl) (hb : 0 ≤ x0.a ∧ x0.a ≤ 1048576) : StL (fun z => left z && !z.sameKey (litN x0)) (uniq fl) (max m (x0.a + 1)) := by
  obtain ⟨h1, h2, h3, h4⟩ := h
  refine ⟨?_, fun y hy hl => ?_, by omega, by omega⟩
  · by_cases hm : m ≤ x0.a + 1
    · exact .inr ⟨x0, hx, by omega⟩
    · rw [show max m (x0.a + 1) = m by omega]
      exact h1
  · by_cases hy2 : left (litN y) = true
    · replace hl : (left (litN y) && !(litN y).sameKey (litN x0)) = false := hl
      rw [hy2, Bool.true_and] at hl
      have hs : (litN y).sameKey (litN x0) = true := by simpa using hl
      have := ((litN_same (hok y (uniq_sub fl y hy)) (hok x0 (uniq_sub fl x0 hx))).1 hs).2.1
      omega
    · have := h2 y hy (by simpa using hy2)
      omega
set_option maxRecDepth 100000 in
set_option maxHeartbeats 1000000 in
theorem steps_any {W : World} {lb mb base : Nat} {t : St} {v : Value} (h : LogAt W lb mb base t v) (hok : ∀ x ∈ t.fl, x.ok) (hbd : ∀ x ∈ t.fl, 0 ≤ x.a ∧ x.a ≤ 1048576) : Calls Try.prog 26 #[.pointer (some ⟨lb, 0, none⟩)] W (fun e w' => e = .returned (.int .i64 (stN t.fl)) ∧ Chg (fun _ => False) W w') := by
  have h2 := h.c2
  go_enter Try.func26, Try.ntmps26
  go_wp2_with (first | (at_range; refine wpList_range_own _ rfl _ 73 rfl 80 2 place_keyed Try.underlying73 (plainElem (H := Unit) Try.prog 2) mb t.fl.length (fileD t.fl) rfl h.fil ?_; intro w0 hrg0 hg0 hs0))
  go_frame
  go_loopw [3] (fun x wr => ∃ (left : Lit → Bool) (cnt : Nat) (m : Int), x = .int .i64 m ∧ wr.ranges Try.prog 80 (plainElem (H := Unit) Try.prog 2) mb W.heap.size t.fl.length (fileD t.fl) left cnt ∧ (∀ kl, left kl = true → has (fileD t.fl) kl = true) ∧ StL left (uniq t.fl) m ∧ Chg (fun _ => False) W wr)
    (fun _ wr => wr.rangeLeft mb W.heap.size)
  case atStart => exact ⟨_, _, 0, rfl, hrg0, fun _ h => h, StL.start hok, (Chg.refl _ W).grown hg0 (fun _ e => by cases e)⟩
  case round =>
    obtain ⟨left, cnt, m, rfl, hrg, hsub, hm, hC⟩ := hrel
    go_wp2_with (at_next; refine wpList_next_ranges _ rfl _ rfl 80 place_keyed (plainElem (H := Unit) Try.prog 2) (fun x : Int × Int × Int => keyV x.1 x.2.1 x.2.2) (fun c : Int => .int .i64 c) key_inv int_inv mb W.heap.size t.fl.length (fileD t.fl) left cnt rfl hrg ?_ ?_)
    · intro _ hl
      go_wp2
      go_ret
      exact ⟨by rw [hm.done hl]; rfl, hC⟩
    · intro k' a b c kl _ _ w1 cnt1 hkey hlk _ _ hrg1 hlt hg1 hs1 hen
      simp only [keyV] at hen
      obtain ⟨x0, hx0, rfl, rfl, rfl, rfl, hl0⟩ := comes hok hsub hkey hlk
      have hb0 := hbd x0 (uniq_sub t.fl x0 hx0)
      have hst := hm.step hok hx0 hb0
      have hC1 := hC.grown hg1 (fun q e => .inr (by have := Option.some.inj e; omega))
      have hkw : IntKind.i64.wrap (x0.a + 1) = x0.a + 1 := IntWalk.i64_in _ (by omega)
      have hsub2 : ∀ kl, (left kl && !kl.sameKey (litN x0)) = true → has (fileD t.fl) kl = true := fun kl h => hsub kl (Bool.and_eq_true _ _ ▸ h).1
      clear hm
      have HT := Lib.hid hst
      clear hst
      go_wp2
      refine ⟨⟨_, cnt1, _, rfl, hrg1.alloc _, hsub2, HT.out, hC1.alloc _⟩, ?_⟩
      rw [(hrg1.alloc _).left_eq, hrg.left_eq]
      exact hlt
theorem steps_none (W : World) : Calls Try.prog 26 #[.pointer none] W (fun e w' => e = .returned (.int .i64 0) ∧ Chg (fun _ => False) W w') := by
  go_enter Try.func26, Try.ntmps26
  go_wp2
  go_ret
  exact ⟨rfl, Chg.refl _ _⟩
end Go.Proofs.Ytpiboaoifcajdaa
