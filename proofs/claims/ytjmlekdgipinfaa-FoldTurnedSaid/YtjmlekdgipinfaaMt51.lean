/- fold: the plain law of FoldTurned: an outer product, its axes turned about. -/
import Derived.Test.YtjmlekdgipinfaaMt21
import Derived.Test.YtjmlekdgipinfaaMt50
import Derived.Test.YtjmlekdgipinfaaMt40
namespace Go.Proofs.Ytjmlekdgipinfaa
open Go.RowKit Go.Shelf

/-- The list, each place filled from where P says. -/
def mvE (n : Nat) (P : Nat → Int) (e : List Int) : List Int := (List.range n).map (fun i => e.getD (P i).toNat 0)
theorem mvE_length (n : Nat) (P : Nat → Int) (e : List Int) : (mvE n P e).length = n := by simp [mvE]
theorem mvE_getD {n : Nat} {P : Nat → Int} {e : List Int} {i : Nat} (hi : i < n) : (mvE n P e).getD i 0 = e.getD (P i).toNat 0 := by
  unfold mvE
  simp [List.getD, List.getElem?_map, List.getElem?_range hi]
theorem mvE_congr {n : Nat} {P Q : Nat → Int} {e : List Int} (h : ∀ i, i < n → P i = Q i) : mvE n P e = mvE n Q e :=
  List.map_congr_left (fun i hi => by rw [h i (List.mem_range.1 hi)])
theorem mvE_id {n : Nat} {P : Nat → Int} {e : List Int} (hl : e.length = n) (h : ∀ i : Nat, i < n → P i = (i : Int)) : mvE n P e = e := by
  apply List.ext_getElem?
  intro i
  by_cases hi : i < n
  · unfold mvE
    rw [List.getElem?_map, List.getElem?_range hi, Option.map_some, h i hi, Int.toNat_natCast, List.getD, List.getElem?_eq_getElem (by omega)]
    rfl
  · rw [List.getElem?_eq_none (by rw [mvE_length]; omega), List.getElem?_eq_none (by omega)]
def InP (n : Nat) (P : Nat → Int) : Prop := ∀ i, i < n → 0 ≤ P i ∧ P i < (n : Int)
theorem mvE_mvE {n : Nat} {P Q : Nat → Int} {e : List Int} (hP : InP n P) : mvE n P (mvE n Q e) = mvE n (fun i => Q (P i).toNat) e :=
  List.map_congr_left (fun i hi => mvE_getD (by have := hP i (List.mem_range.1 hi); omega))
theorem mvE_mem {n : Nat} {P : Nat → Int} {e : List Int} (hl : e.length = n) (hP : InP n P) : ∀ x ∈ mvE n P e, x ∈ e := by
  intro x hx
  obtain ⟨i, hi, rfl⟩ := List.mem_map.1 hx
  have h := hP i (List.mem_range.1 hi)
  rw [List.getD, List.getElem?_eq_getElem (show (P i).toNat < e.length by omega)]
  exact List.getElem_mem _
theorem pick_tab {A : Ar} {n : Nat} {P : Nat → Int} : (tabG n (fun i => (0, P i))).map (pickL A.k [A]) = mvE n P A.e := by
  unfold tabG mvE
  rw [List.map_map]
  apply List.map_congr_left
  intro i _
  show pickL A.k [A] (0, P i) = _
  unfold pickL
  rw [if_neg (show ¬ (0 : Int) = -1 by decide)]
  rfl
theorem chk_mv {A : Ar} {s : List Int} {n : Nat} {P : Nat → Int} (hA : chkB A = true) (hs : shB s = true) (hn : (n : Int) = prodL s) (hl : A.e.length = n) (hP : InP n P) : chkB ⟨A.k, s, mvE n P A.e⟩ = true := by
  refine chkB_iff.2 ⟨hs, by show prodL s = ((mvE n P A.e).length : Int); rw [mvE_length, hn], ?_⟩
  have h := kndB_iff.1 (chkB_iff.1 hA).2.2
  exact kndB_iff.2 (h.imp id (fun h => ⟨h.1, fun c hc => h.2 c (mvE_mem hl hP c hc)⟩))
theorem tg_tab {A : Ar} {s : List Int} {n : Nat} {P : Nat → Int} (hA : chkB A = true) (hs : shB s = true) (hn : (n : Int) = prodL s) (hl : A.e.length = n) (hP : InP n P) :
    tgN ⟨s, tabG n (fun i => (0, P i)), 0⟩ A = 0 ∧ tgA ⟨s, tabG n (fun i => (0, P i)), 0⟩ A = ⟨A.k, s, mvE n P A.e⟩ := by
  have h1 : goN A.k s (tabG n (fun i => (0, P i))) [A] = 0 := by
    unfold goN
    rw [if_pos ((kndB_iff.1 (chkB_iff.1 hA).2.2).imp id (fun h => h.1)), if_neg, pick_tab]
    · exact chkE_zero.2 (chk_mv hA hs hn hl hP)
    · rw [Bool.not_eq_true, List.any_eq_false]
      intro x hx
      obtain ⟨i, hi, rfl⟩ := List.mem_map.1 hx
      have h := hP i (List.mem_range.1 hi)
      rw [Bool.not_eq_true]
      exact badL_not (by decide) (show ¬ (0 : Int) < 0 by decide) (show ¬ ((1 : Nat) : Int) ≤ 0 by decide) (by show ¬ P i < 0; omega) (by show ¬ (A.e.length : Int) ≤ P i; omega)
  unfold tgN tgA
  rw [hA]
  refine ⟨h1, ?_⟩
  show goA A.k s (tabG n (fun i => (0, P i))) [A] = _
  rw [goA_ok h1, pick_tab]
theorem chk_len {A : Ar} (h : chkB A = true) : shB A.s = true ∧ A.e.length = cnt A.s ∧ (cnt A.s : Int) = prodL A.s ∧ A.s.length ≤ 4 ∧ A.e.length ≤ 4096 := by
  obtain ⟨h1, h2, _⟩ := chkB_iff.1 h
  have h3 := cnt_int A.s
  rw [cntN_ok h1] at h3
  have h4 := shB_iff.1 h1
  exact ⟨h1, by omega, h3, h4.1, by omega⟩
def comB (f : Int) : Prop := f = 1 ∨ f = 3 ∨ f = 6 ∨ f = 7 ∨ f = 9 ∨ f = 10
theorem com_bin {f : Int} (h : comB f) : binB f = true := by
  rcases h with rfl | rfl | rfl | rfl | rfl | rfl <;> rfl
theorem two_comm {f x y : Int} (h : comB f) : twoP f x y = twoP f y x := by
  rcases h with rfl | rfl | rfl | rfl | rfl | rfl
  · show (fitN (x + y), fitE (x + y)) = (fitN (y + x), fitE (y + x))
    rw [Int.add_comm]
  · show (fitN (x * y), fitE (x * y)) = (fitN (y * x), fitE (y * x))
    rw [Int.mul_comm]
  · show (min x y, (0 : Int)) = (min y x, 0)
    rw [Int.min_comm]
  · show (max x y, (0 : Int)) = (max y x, 0)
    rw [Int.max_comm]
  · show (flagI (decide (x = y)), (0 : Int)) = (flagI (decide (y = x)), 0)
    rw [show decide (x = y) = decide (y = x) from decide_eq_decide.2 eq_comm]
  · show (flagI (decide (x ≠ y)), (0 : Int)) = (flagI (decide (y ≠ x)), 0)
    rw [show decide (x ≠ y) = decide (y ≠ x) from decide_eq_decide.2 ne_comm]
theorem fitE_or (n : Int) : fitE n = 0 ∨ fitE n = 7 := by
  unfold fitE
  split
  · exact .inl rfl
  · exact .inr rfl
theorem two_err {f x y : Int} (h : comB f) : (twoP f x y).2 = 0 ∨ (twoP f x y).2 = 7 := by
  rcases h with rfl | rfl | rfl | rfl | rfl | rfl
  · exact fitE_or (x + y)
  · exact fitE_or (x * y)
  · exact .inl rfl
  · exact .inl rfl
  · exact .inl rfl
  · exact .inl rfl
theorem fst_or {n : Nat} {el : Nat → Int × Int} (h : ∀ i, i < n → (el i).2 = 0 ∨ (el i).2 = 7) : fstE (tabP n el) = 0 ∨ fstE (tabP n el) = 7 := by
  induction n with
  | zero => exact .inl rfl
  | succ n ih =>
    rcases ih (fun i hi => h i (by omega)) with h0 | h0
    · rw [fstE_succ h0]
      exact h n (by omega)
    · have h1 : fstE (tabP n el) ≠ 0 := by rw [h0]; decide
      rw [fstE_all (Nat.le_succ n) h1, h0]
      exact .inr rfl
theorem vec_ou {f : Int} {l m : List Int} (hf : comB f) (hl : l.length ≤ 60) (hm : m.length ≤ 60) : ouE f (vcA l) (vcA m) = 0 := by
  have hb := com_bin hf
  have h1 := vchk (l := l) (by omega)
  have h2 := vchk (l := m) (by omega)
  have hk : knE f 1 1 = 0 := by
    rcases hf with rfl | rfl | rfl | rfl | rfl | rfl <;> rfl
  have hp : (l.length : Int) * (m.length : Int) ≤ 3600 := by
    have h8 : l.length * m.length ≤ 3600 := Nat.mul_le_mul hl hm
    have h9 : ((l.length * m.length : Nat) : Int) ≤ ((3600 : Nat) : Int) := Int.ofNat_le.2 h8
    rw [Int.natCast_mul] at h9
    exact h9
  have hs : shB ([(l.length : Int)] ++ [(m.length : Int)]) = true := by
    refine shB_iff.2 ⟨by simp, fun x hx => ?_, ?_⟩
    · simp at hx
      rcases hx with rfl | rfl <;> omega
    · show (l.length : Int) * ((m.length : Int) * 1) ≤ 4096
      rw [Int.mul_one]
      omega
  unfold ouE ckE
  simp only [List.any_cons, List.any_nil, hb, h1, h2, Bool.not_true, Bool.or_false, Bool.and_self, if_true]
  show (if (if false = true then (2 : Int) else 0) = 0 then (if knE f 1 1 = 0 then (if shB ([(l.length : Int)] ++ [(m.length : Int)]) = true then 0 else 9) else knE f 1 1) else (if false = true then (2 : Int) else 0)) = 0
  rw [hk, hs]
  rfl
theorem vec_out {f : Int} {l m : List Int} (hf : comB f) (hl : l.length ≤ 60) (hm : m.length ≤ 60) : outE f (vcA l) (vcA m) = fstE (tabP (l.length * m.length) (ouP (twoP f) l m)) ∧
    (outE f (vcA l) (vcA m) = 0 → outA f (vcA l) (vcA m) = ⟨1, [(l.length : Int), (m.length : Int)], tabV (l.length * m.length) (ouP (twoP f) l m)⟩) := by
  have h0 := vec_ou hf hl hm
  have hmx : mixP f 1 1 = twoP f := by funext x y; exact if_pos rfl
  refine ⟨by unfold outE mdE; rw [if_pos h0]; show fstE (tabP _ (ouP (mixP f 1 1) l m)) = _; rw [hmx]; rfl, fun h => ?_⟩
  unfold outA
  rw [if_pos h]
  show (⟨1, [(l.length : Int)] ++ [(m.length : Int)], tabV (l.length * m.length) (ouP (mixP f 1 1) l m)⟩ : Ar) = _
  rw [hmx]
  rfl
theorem ou_swap {f : Int} {l m : List Int} (hf : comB f) {i k : Nat} (hi : i < l.length) (hk : k < m.length) : ouP (twoP f) l m (i * m.length + k) = ouP (twoP f) m l (k * l.length + i) := by
  have h1 : (i * m.length + k) / m.length = i := by rw [Nat.mul_comm, Nat.mul_add_div (by omega), Nat.div_eq_of_lt hk]; rfl
  have h2 : (i * m.length + k) % m.length = k := by rw [Nat.mul_comm, Nat.mul_add_mod, Nat.mod_eq_of_lt hk]
  have h3 : (k * l.length + i) / l.length = k := by rw [Nat.mul_comm, Nat.mul_add_div (by omega), Nat.div_eq_of_lt hi]; rfl
  have h4 : (k * l.length + i) % l.length = i := by rw [Nat.mul_comm, Nat.mul_add_mod, Nat.mod_eq_of_lt hi]
  unfold ouP
  rw [h1, h2, h3, h4]
  exact two_comm hf
theorem ou_parts {n j m : Nat} (h : j < n * m) : 0 < m ∧ j / m < n ∧ j % m < m ∧ j = j / m * m + j % m := by
  have hm : 0 < m := by
    rcases Nat.eq_zero_or_pos m with e | e
    · rw [e, Nat.mul_zero] at h; omega
    · exact e
  refine ⟨hm, (Nat.div_lt_iff_lt_mul hm).2 h, Nat.mod_lt _ hm, ?_⟩
  have := Nat.div_add_mod j m
  rw [Nat.mul_comm] at this
  exact this.symm
theorem ou_zero_swap {f : Int} {l m : List Int} (hf : comB f) (h : fstE (tabP (l.length * m.length) (ouP (twoP f) l m)) = 0) : fstE (tabP (m.length * l.length) (ouP (twoP f) m l)) = 0 := by
  refine fstE_of fun j hj => ?_
  obtain ⟨h1, h2, h3, h4⟩ := ou_parts hj
  rw [h4, ← ou_swap hf h3 h2]
  refine fstE_zero h _ ?_
  calc j % l.length * m.length + j / l.length < j % l.length * m.length + m.length := by omega
    _ = (j % l.length + 1) * m.length := by rw [Nat.add_mul, Nat.one_mul]
    _ ≤ l.length * m.length := Nat.mul_le_mul_right _ h3
/-- Both errors. -/
theorem out_errs {f : Int} {l m : List Int} (hf : comB f) (hl : l.length ≤ 60) (hm : m.length ≤ 60) :
    (outE f (vcA l) (vcA m) = 0 ∧ outE f (vcA m) (vcA l) = 0) ∨ (outE f (vcA l) (vcA m) = 7 ∧ outE f (vcA m) (vcA l) = 7) := by
  rw [(vec_out hf hl hm).1, (vec_out hf hm hl).1]
  have e1 := fst_or (n := l.length * m.length) (el := ouP (twoP f) l m) (fun i _ => two_err hf)
  have e2 := fst_or (n := m.length * l.length) (el := ouP (twoP f) m l) (fun i _ => two_err hf)
  rcases e1 with e1 | e1
  · exact .inl ⟨e1, ou_zero_swap hf e1⟩
  · rcases e2 with e2 | e2
    · rw [ou_zero_swap hf e2] at e1; exact absurd e1 (by decide)
    · exact .inr ⟨e1, e2⟩
/-- Where the turned one's numbers come from. -/
theorem tra_two (M N k : Nat) (hk : k < M * N) : plL [(M : Int), (N : Int)] ((aboP 2).map fun a => (atL (outL [(M : Int), (N : Int)] (aboP 2)) (k : Int)).getD a 0) = ((k % M * N + k / M : Nat) : Int) := by
  have ho : outL [(M : Int), (N : Int)] (aboP 2) = [(N : Int), (M : Int)] := by rfl
  rw [ho]
  obtain ⟨h1, h2, h3, h4⟩ := ou_parts (n := N) (j := k) (m := M) (by rw [Nat.mul_comm]; exact hk)
  have ha : atL [(N : Int), (M : Int)] (k : Int) = [(k : Int) / ((M : Int) * 1) % (N : Int), (k : Int) / 1 % (M : Int)] := rfl
  rw [ha]
  have hp : (aboP 2) = [1, 0] := by rfl
  rw [hp]
  show ((k : Int) / 1 % (M : Int)) * ((N : Int) * 1) + (((k : Int) / ((M : Int) * 1) % (N : Int)) * 1 + 0) = _
  rw [Int.ediv_one, Int.mul_one, Int.mul_one, Int.mul_one, Int.add_zero]
  have e1 : (k : Int) / (M : Int) = ((k / M : Nat) : Int) := (Int.natCast_ediv _ _).symm
  have e2 : (k : Int) % (M : Int) = ((k % M : Nat) : Int) := (Int.natCast_emod _ _).symm
  rw [e1, e2, show ((k / M : Nat) : Int) % (N : Int) = ((k / M : Nat) : Int) from Int.emod_eq_of_lt (Int.natCast_nonneg _) (by exact_mod_cast h2)]
  push_cast
  rfl
theorem turned {f : Int} {l m : List Int} (hf : comB f) (hl : l.length ≤ 60) (hm : m.length ≤ 60) (h : outE f (vcA l) (vcA m) = 0) :
    tgN (toldW (outA f (vcA l) (vcA m)).s (traW (outA f (vcA l) (vcA m)).s)) (outA f (vcA l) (vcA m)) = 0 ∧ tgA (toldW (outA f (vcA l) (vcA m)).s (traW (outA f (vcA l) (vcA m)).s)) (outA f (vcA l) (vcA m)) = outA f (vcA m) (vcA l) := by
  have h' : outE f (vcA m) (vcA l) = 0 := by
    rcases out_errs hf hl hm with q | q
    · exact q.2
    · rw [q.1] at h; exact absurd h (by decide)
  rw [(vec_out hf hl hm).2 h, (vec_out hf hm hl).2 h']
  obtain ⟨M, hM⟩ : ∃ M, l.length = M := ⟨_, rfl⟩
  obtain ⟨N, hN⟩ : ∃ N, m.length = N := ⟨_, rfl⟩
  have hMN : M * N ≤ 3600 := by rw [← hM, ← hN]; exact Nat.mul_le_mul hl hm
  have hsw := fun i k hi hk => congrArg Prod.fst (ou_swap (l := l) (m := m) hf (i := i) (k := k) hi hk)
  rw [hM] at hsw hl ⊢
  rw [hN] at hsw hm ⊢
  have hpi : (M : Int) * (N : Int) ≤ 3600 := by
    have h9 : ((M * N : Nat) : Int) ≤ ((3600 : Nat) : Int) := Int.ofNat_le.2 hMN
    rw [Int.natCast_mul] at h9
    exact h9
  have hsh : shB [(M : Int), (N : Int)] = true := by
    refine shB_iff.2 ⟨by simp, fun x hx => ?_, ?_⟩
    · simp at hx
      rcases hx with rfl | rfl <;> omega
    · show (M : Int) * ((N : Int) * 1) ≤ 4096
      rw [Int.mul_one]
      omega
  have hsh2 : shB [(N : Int), (M : Int)] = true := by
    refine shB_iff.2 ⟨by simp, fun x hx => ?_, ?_⟩
    · simp at hx
      rcases hx with rfl | rfl <;> omega
    · show (N : Int) * ((M : Int) * 1) ≤ 4096
      rw [Int.mul_one, Int.mul_comm]
      omega
  have hcn : cnt [(M : Int), (N : Int)] = M * N := by
    have h9 := cnt_int [(M : Int), (N : Int)]
    rw [cntN_ok hsh, show prodL [(M : Int), (N : Int)] = (M : Int) * (N : Int) from by show (M : Int) * ((N : Int) * 1) = _; rw [Int.mul_one]] at h9
    exact_mod_cast h9
  have hck : chkB ⟨1, [(M : Int), (N : Int)], tabV (M * N) (ouP (twoP f) l m)⟩ = true := chkB_iff.2 ⟨hsh, by
    show prodL [(M : Int), (N : Int)] = ((tabV (M * N) (ouP (twoP f) l m)).length : Int)
    rw [tabV_length]
    show (M : Int) * ((N : Int) * 1) = _
    rw [Int.mul_one]
    exact (Int.natCast_mul _ _).symm, kndB_iff.2 (.inl rfl)⟩
  have hW : toldW [(M : Int), (N : Int)] (traW [(M : Int), (N : Int)]) = ⟨[(N : Int), (M : Int)], tabG (M * N) (fun k => (0, ((k % M * N + k / M : Nat) : Int))), 0⟩ := by
    unfold toldW
    rw [if_pos hsh]
    unfold traW axG
    rw [hcn]
    show (⟨outL [(M : Int), (N : Int)] (aboP 2), _, 0⟩ : Wy) = _
    have ho : outL [(M : Int), (N : Int)] (aboP 2) = [(N : Int), (M : Int)] := by rfl
    rw [ho, tabG_congr (g := fun k => (0, ((k % M * N + k / M : Nat) : Int))) (fun k hk => by
      have := tra_two M N k hk
      rw [ho] at this
      exact congrArg (Prod.mk 0) this)]
  show tgN (toldW [(M : Int), (N : Int)] (traW [(M : Int), (N : Int)])) ⟨1, [(M : Int), (N : Int)], tabV (M * N) (ouP (twoP f) l m)⟩ = 0 ∧ tgA (toldW [(M : Int), (N : Int)] (traW [(M : Int), (N : Int)])) ⟨1, [(M : Int), (N : Int)], tabV (M * N) (ouP (twoP f) l m)⟩ = _
  rw [hW]
  have hin : InP (M * N) (fun k => ((k % M * N + k / M : Nat) : Int)) := fun k hk => by
    obtain ⟨h1, h2, h3, h4⟩ := ou_parts (n := N) (j := k) (m := M) (by rw [Nat.mul_comm]; exact hk)
    refine ⟨Int.natCast_nonneg _, ?_⟩
    have : k % M * N + k / M < M * N := by
      calc k % M * N + k / M < k % M * N + N := by omega
        _ = (k % M + 1) * N := by rw [Nat.add_mul, Nat.one_mul]
        _ ≤ M * N := Nat.mul_le_mul_right _ h3
    show ((k % M * N + k / M : Nat) : Int) < ((M * N : Nat) : Int)
    exact_mod_cast this
  obtain ⟨r1, r2⟩ := tg_tab hck hsh2 (n := M * N) (P := fun k => ((k % M * N + k / M : Nat) : Int)) (by show ((M * N : Nat) : Int) = (N : Int) * ((M : Int) * 1); rw [Int.mul_one, Int.natCast_mul, Int.mul_comm]) (by show (tabV _ _).length = _; rw [tabV_length]) hin
  refine ⟨r1, ?_⟩
  rw [r2]
  congr 1
  show mvE (M * N) _ (tabV (M * N) (ouP (twoP f) l m)) = tabV (N * M) (ouP (twoP f) m l)
  unfold mvE
  rw [Nat.mul_comm N M]
  show _ = ((List.range (M * N)).map (ouP (twoP f) m l)).map (·.1)
  rw [List.map_map]
  refine List.map_congr_left fun k hk => ?_
  have hk' := List.mem_range.1 hk
  obtain ⟨h1, h2, h3, h4⟩ := ou_parts (n := N) (j := k) (m := M) (by rw [Nat.mul_comm]; exact hk')
  have hlt := hin k hk'
  rw [Int.toNat_natCast]
  have hg : (tabV (M * N) (ouP (twoP f) l m)).getD (k % M * N + k / M) 0 = (ouP (twoP f) l m (k % M * N + k / M)).1 := by
    have h8 : ((k % M * N + k / M : Nat) : Int) < ((M * N : Nat) : Int) := hlt.2
    have : k % M * N + k / M < M * N := by exact_mod_cast h8
    unfold tabV tabP
    simp [List.getD, this]
  rw [hg, hsw _ _ h3 h2]
  show (ouP (twoP f) m l (k / M * M + k % M)).1 = (ouP (twoP f) m l k).1
  rw [← h4]
end Go.Proofs.Ytjmlekdgipinfaa
