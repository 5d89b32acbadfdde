/- Turning, plainly: what the ways make of an array. -/
import Derived.Test.YtmmbdhfljabefaaTrS
namespace Go.Proofs.Ytmmbdhfljabefaa

/-- The list, each place filled from where P says. -/
def mvE (n : Nat) (P : Nat → Int) (e : List Int) : List Int := (List.range n).map (fun i => e.getD (P i).toNat 0)
theorem mvE_length (n : Nat) (P : Nat → Int) (e : List Int) : (mvE n P e).length = n := by simp [mvE]
theorem mvE_getD {n : Nat} {P : Nat → Int} {e : List Int} {i : Nat} (hi : i < n) : (mvE n P e).getD i 0 = e.getD (P i).toNat 0 := by
  unfold mvE
  simp [List.getD, List.getElem?_map, List.getElem?_range hi]
theorem mvE_congr {n : Nat} {P Q : Nat → Int} {e : List Int} (h : ∀ i, i < n → P i = Q i) : mvE n P e = mvE n Q e :=
  List.map_congr_left (fun i hi => by rw [h i (List.mem_range.1 hi)])
theorem mvE_id {n : Nat} {P : Nat → Int} {e : List Int} (hl : e.length = n) (h : ∀ i : Nat, i < n → P i = (i : Int)) : mvE n P e = e := by
  apply List.ext_getElem?
  intro i
  by_cases hi : i < n
  · unfold mvE
    rw [List.getElem?_map, List.getElem?_range hi, Option.map_some, h i hi, Int.toNat_natCast, List.getD, List.getElem?_eq_getElem (by omega)]
    rfl
  · rw [List.getElem?_eq_none (by rw [mvE_length]; omega), List.getElem?_eq_none (by omega)]
def InP (n : Nat) (P : Nat → Int) : Prop := ∀ i, i < n → 0 ≤ P i ∧ P i < (n : Int)
theorem mvE_mvE {n : Nat} {P Q : Nat → Int} {e : List Int} (hP : InP n P) : mvE n P (mvE n Q e) = mvE n (fun i => Q (P i).toNat) e :=
  List.map_congr_left (fun i hi => mvE_getD (by have := hP i (List.mem_range.1 hi); omega))
theorem mvE_mem {n : Nat} {P : Nat → Int} {e : List Int} (hl : e.length = n) (hP : InP n P) : ∀ x ∈ mvE n P e, x ∈ e := by
  intro x hx
  obtain ⟨i, hi, rfl⟩ := List.mem_map.1 hx
  have h := hP i (List.mem_range.1 hi)
  rw [List.getD, List.getElem?_eq_getElem (show (P i).toNat < e.length by omega)]
  exact List.getElem_mem _
theorem pick_tab {A : Ar} {n : Nat} {P : Nat → Int} : (tabG n (fun i => (0, P i))).map (pickL A.k [A]) = mvE n P A.e := by
  unfold tabG mvE
  rw [List.map_map]
  apply List.map_congr_left
  intro i _
  show pickL A.k [A] (0, P i) = _
  unfold pickL
  rw [if_neg (show ¬ (0 : Int) = -1 by decide)]
  rfl
theorem chk_mv {A : Ar} {s : List Int} {n : Nat} {P : Nat → Int} (hA : chkB A = true) (hs : shB s = true) (hn : (n : Int) = prodL s) (hl : A.e.length = n) (hP : InP n P) : chkB ⟨A.k, s, mvE n P A.e⟩ = true := by
  refine chkB_iff.2 ⟨hs, by show prodL s = ((mvE n P A.e).length : Int); rw [mvE_length, hn], ?_⟩
  have h := kndB_iff.1 (chkB_iff.1 hA).2.2
  exact kndB_iff.2 (h.imp id (fun h => ⟨h.1, fun c hc => h.2 c (mvE_mem hl hP c hc)⟩))
theorem tg_tab {A : Ar} {s : List Int} {n : Nat} {P : Nat → Int} (hA : chkB A = true) (hs : shB s = true) (hn : (n : Int) = prodL s) (hl : A.e.length = n) (hP : InP n P) :
    tgN ⟨s, tabG n (fun i => (0, P i)), 0⟩ A = 0 ∧ tgA ⟨s, tabG n (fun i => (0, P i)), 0⟩ A = ⟨A.k, s, mvE n P A.e⟩ := by
  have h1 : goN A.k s (tabG n (fun i => (0, P i))) [A] = 0 := by
    unfold goN
    rw [if_pos ((kndB_iff.1 (chkB_iff.1 hA).2.2).imp id (fun h => h.1)), if_neg, pick_tab]
    · exact chkE_zero.2 (chk_mv hA hs hn hl hP)
    · rw [Bool.not_eq_true, List.any_eq_false]
      intro x hx
      obtain ⟨i, hi, rfl⟩ := List.mem_map.1 hx
      have h := hP i (List.mem_range.1 hi)
      rw [Bool.not_eq_true]
      exact badL_not (by decide) (show ¬ (0 : Int) < 0 by decide) (show ¬ ((1 : Nat) : Int) ≤ 0 by decide) (by show ¬ P i < 0; omega) (by show ¬ (A.e.length : Int) ≤ P i; omega)
  unfold tgN tgA
  rw [hA]
  refine ⟨h1, ?_⟩
  show goA A.k s (tabG n (fun i => (0, P i))) [A] = _
  rw [goA_ok h1, pick_tab]
theorem chk_len {A : Ar} (h : chkB A = true) : shB A.s = true ∧ A.e.length = cnt A.s ∧ (cnt A.s : Int) = prodL A.s ∧ A.s.length ≤ 4 ∧ A.e.length ≤ 4096 := by
  obtain ⟨h1, h2, _⟩ := chkB_iff.1 h
  have h3 := cnt_int A.s
  rw [cntN_ok h1] at h3
  have h4 := shB_iff.1 h1
  exact ⟨h1, by omega, h3, h4.1, by omega⟩
/-- A place of the row in which the i-th one stands. -/
theorem row_in {s : List Int} (hs : shB s = true) {i : Nat} (hi : i < cnt s) {f : Int} (h0 : 0 ≤ f) (h1 : f < rowN s) : 0 ≤ (i : Int) / rowN s * rowN s + f ∧ (i : Int) / rowN s * rowN s + f < (cnt s : Int) := by
  obtain ⟨p1, _, _⟩ := ediv_lt_cnt hs hi
  have hc := cnt_int s
  rw [cntN_ok hs] at hc
  have hq : 0 ≤ (i : Int) / rowN s := Int.ediv_nonneg (by omega) (by omega)
  refine ⟨by have := Int.mul_nonneg hq (Int.le_of_lt p1); omega, ?_⟩
  by_cases h : s = []
  · subst h
    have : rowN [] = 1 := rfl
    have h2 : prodL [] = 1 := rfl
    rw [this] at h1 ⊢
    omega
  · have h2 := prod_row h
    have h3 : (i : Int) / rowN s < prodL (s.take (s.length - 1)) := Int.ediv_lt_of_lt_mul p1 (by omega)
    have h4 : ((i : Int) / rowN s + 1) * rowN s ≤ prodL (s.take (s.length - 1)) * rowN s := Int.mul_le_mul_of_nonneg_right (by omega) (by omega)
    rw [Int.add_mul] at h4
    omega
theorem row_div {q m f : Int} (hm : 0 < m) (h0 : 0 ≤ f) (h1 : f < m) : (q * m + f) / m = q ∧ (q * m + f) % m = f := by
  constructor
  · rw [Int.add_comm, Int.add_mul_ediv_right _ _ (by omega), Int.ediv_eq_zero_of_lt h0 h1, Int.zero_add]
  · rw [Int.add_comm, Int.add_mul_emod_self_right, Int.emod_eq_of_lt h0 h1]
theorem div_row (i m : Int) : i / m * m + i % m = i := by
  rw [Int.mul_comm]
  exact Int.mul_ediv_add_emod i m
def revQ (s : List Int) (i : Nat) : Int := (i : Int) / rowN s * rowN s + (rowN s - 1 - (i : Int) % rowN s)
def revA (A : Ar) : Ar := tgA (revW A.s) A
def rotQ (s : List Int) (x : Int) (i : Nat) : Int := (i : Int) / rowN s * rowN s + ((i : Int) % rowN s + x) % rowN s
def rotA (x : Int) (A : Ar) : Ar := tgA (rotW ⟨1, [], [x]⟩ A.s) A
theorem revQ_in {s : List Int} (hs : shB s = true) : InP (cnt s) (revQ s) := fun i hi => by
  obtain ⟨p1, _, _⟩ := ediv_lt_cnt hs hi
  have h1 := Int.emod_nonneg (i : Int) (show rowN s ≠ 0 by omega)
  have h2 := Int.emod_lt_of_pos (i : Int) p1
  exact row_in hs hi (by omega) (by omega)
theorem rotQ_in {s : List Int} (hs : shB s = true) (x : Int) : InP (cnt s) (rotQ s x) := fun i hi => by
  obtain ⟨p1, _, _⟩ := ediv_lt_cnt hs hi
  exact row_in hs hi (Int.emod_nonneg _ (by omega)) (Int.emod_lt_of_pos _ p1)
theorem rev_ok {A : Ar} (hA : chkB A = true) : tgN (revW A.s) A = 0 ∧ revA A = ⟨A.k, A.s, mvE (cnt A.s) (revQ A.s) A.e⟩ ∧ chkB (revA A) = true := by
  obtain ⟨hs, hl, hc, _, _⟩ := chk_len hA
  have hw : revW A.s = ⟨A.s, tabG (cnt A.s) (fun i => (0, revQ A.s i)), 0⟩ := if_pos hs
  have h := tg_tab hA hs hc hl (revQ_in hs)
  unfold revA
  rw [hw, h.1, h.2]
  exact ⟨rfl, rfl, chk_mv hA hs hc hl (revQ_in hs)⟩
theorem rev_rev {A : Ar} (hA : chkB A = true) : revA (revA A) = A := by
  obtain ⟨hs, hl, hc, _, _⟩ := chk_len hA
  obtain ⟨_, h2, h3⟩ := rev_ok hA
  rw [(rev_ok h3).2.1, h2]
  simp only
  rw [mvE_mvE (revQ_in hs), mvE_id hl]
  intro i hi
  obtain ⟨p1, _, _⟩ := ediv_lt_cnt hs hi
  have h4 := Int.emod_nonneg (i : Int) (show rowN A.s ≠ 0 by omega)
  have h5 := Int.emod_lt_of_pos (i : Int) p1
  have h6 := (revQ_in hs i hi).1
  obtain ⟨h7, h8⟩ := row_div (q := (i : Int) / rowN A.s) (f := rowN A.s - 1 - (i : Int) % rowN A.s) p1 (by omega) (by omega)
  unfold revQ at h6 ⊢
  rw [Int.toNat_of_nonneg h6, h7, h8]
  have := div_row (i : Int) (rowN A.s)
  omega
theorem rot_w {s : List Int} (hs : shB s = true) (x : Int) : rotW ⟨1, [], [x]⟩ s = ⟨s, tabG (cnt s) (fun i => (0, rotQ s x i)), 0⟩ := by
  have hE : rotE ⟨1, [], [x]⟩ s = 0 := by
    unfold rotE
    have : chkB ⟨1, [], [x]⟩ = true := rfl
    rw [hs, this]
    rfl
  unfold rotW
  rw [if_pos hE]
  rfl
theorem rot_ok {A : Ar} (hA : chkB A = true) (x : Int) : tgN (rotW ⟨1, [], [x]⟩ A.s) A = 0 ∧ rotA x A = ⟨A.k, A.s, mvE (cnt A.s) (rotQ A.s x) A.e⟩ ∧ chkB (rotA x A) = true := by
  obtain ⟨hs, hl, hc, _, _⟩ := chk_len hA
  have h := tg_tab hA hs hc hl (rotQ_in hs x)
  unfold rotA
  rw [rot_w hs, h.1, h.2]
  exact ⟨rfl, rfl, chk_mv hA hs hc hl (rotQ_in hs x)⟩
theorem rot_rot {A : Ar} (hA : chkB A = true) (x y : Int) : rotA y (rotA x A) = rotA (x + y) A := by
  obtain ⟨hs, hl, hc, _, _⟩ := chk_len hA
  obtain ⟨_, h2, h3⟩ := rot_ok hA x
  rw [(rot_ok h3 y).2.1, h2, (rot_ok hA (x + y)).2.1]
  simp only
  rw [mvE_mvE (rotQ_in hs y)]
  congr 1
  apply mvE_congr
  intro i hi
  obtain ⟨p1, _, _⟩ := ediv_lt_cnt hs hi
  have h6 := (rotQ_in hs y i hi).1
  obtain ⟨h7, h8⟩ := row_div (q := (i : Int) / rowN A.s) (f := ((i : Int) % rowN A.s + y) % rowN A.s) p1 (Int.emod_nonneg _ (by omega)) (Int.emod_lt_of_pos _ p1)
  unfold rotQ at h6 ⊢
  rw [Int.toNat_of_nonneg h6, h7, h8, Int.emod_add_emod]
  congr 2
  omega
theorem rot_row {A : Ar} (hA : chkB A = true) : rotA (rowN A.s) A = A := by
  obtain ⟨hs, hl, hc, _, _⟩ := chk_len hA
  rw [(rot_ok hA _).2.1, mvE_id hl]
  intro i hi
  obtain ⟨p1, _, _⟩ := ediv_lt_cnt hs hi
  unfold rotQ
  rw [Int.add_emod_right, Int.emod_emod_of_dvd _ (Int.dvd_refl _)]
  exact div_row _ _
/-- Places and their number. -/
theorem atL_add : ∀ (s : List Int) (n c : Int), (∀ l ∈ s, 0 < l) → atL s (n + c * prodL s) = atL s n
  | [], _, _, _ => rfl
  | a :: r, n, c, h => by
    have hr : ∀ l ∈ r, 0 < l := fun l hl => h l (by simp [hl])
    have hp : 0 < prodL r := prodL_pos hr
    rw [atL, atL, prodL, show n + c * (a * prodL r) = n + (c * a) * prodL r by rw [Int.mul_assoc], atL_add r n (c * a) hr, Int.add_mul_ediv_right _ _ (by omega), Int.add_mul_emod_self_right]
where prodL_pos : ∀ {r : List Int}, (∀ l ∈ r, 0 < l) → 0 < prodL r
  | [], _ => by decide
  | a :: r, h => Int.mul_pos (h a (by simp)) (prodL_pos (fun l hl => h l (by simp [hl])))
theorem atL_plL : ∀ {s xs : List Int}, (∀ l ∈ s, 0 < l) → inL s xs = true → atL s (plL s xs) = xs
  | [], [], _, _ => rfl
  | [], _ :: _, _, h => by simp [inL] at h
  | _ :: _, [], _, h => by simp [inL] at h
  | a :: r, x :: xs, hs, h => by
    rw [inL, Bool.and_eq_true, Bool.and_eq_true] at h
    obtain ⟨h1, h2, h3⟩ := h
    have h1 := of_decide_eq_true h1
    have h2 := of_decide_eq_true h2
    have hr : ∀ l ∈ r, 0 < l := fun l hl => hs l (by simp [hl])
    have hp := atL_add.prodL_pos hr
    obtain ⟨g1, g2⟩ := plL_bd (fun l hl => Int.le_of_lt (hr l hl)) h3
    rw [plL, atL, Int.add_comm (x * prodL r), atL_add r _ _ hr, atL_plL hr h3, Int.add_mul_ediv_right _ _ (by omega), Int.ediv_eq_zero_of_lt g1 g2, Int.zero_add, Int.emod_eq_of_lt h1 h2]
theorem mem_getD {p : List Nat} {j : Nat} (h : j ∈ p) : ∃ i, i < p.length ∧ p.getD i 0 = j := by
  obtain ⟨i, hi, e⟩ := List.getElem_of_mem h
  exact ⟨i, hi, by rw [List.getD, List.getElem?_eq_getElem hi]; exact e⟩
theorem outL_ext {s T : List Int} {p : List Nat} (hp : p.Perm (List.range s.length)) (hT : T.length = s.length) (h : ∀ i (hi : i < s.length), T[p.getD i 0]? = some s[i]) : outL s p = T := by
  obtain ⟨hl, _, _⟩ := perm_facts hp
  apply List.ext_getElem?
  intro j
  by_cases hj : j < s.length
  · obtain ⟨i, hi, rfl⟩ := mem_getD (hp.mem_iff.2 (List.mem_range.2 hj))
    rw [outL_get hp (by omega), h i (by omega)]
  · rw [List.getElem?_eq_none (by rw [outL_length]; omega), List.getElem?_eq_none (by omega)]
/-- The place that goes to k by the axes p. -/
def axP (s : List Int) (p : List Nat) (k : Nat) : Int := plL s (p.map fun a => (atL (outL s p) k).getD a 0)
theorem pos_out {s : List Int} {p : List Nat} (hp : p.Perm (List.range s.length)) (hs : ∀ l ∈ s, 0 < l) : ∀ l ∈ outL s p, 0 < l := fun l hl => hs l ((outL_perm hp).mem_iff.1 hl)
theorem in_perm {s : List Int} {p : List Nat} (hp : p.Perm (List.range s.length)) (hs : ∀ l ∈ s, 0 < l) (n : Int) : inL s (p.map fun a => (atL (outL s p) n).getD a 0) = true := by
  obtain ⟨hl, _, hb⟩ := perm_facts hp
  refine inL_iff.2 ⟨by rw [List.length_map, hl], fun i x l hx hsl => ?_⟩
  have hi := (List.getElem?_eq_some_iff.1 hsl).1
  have hsl2 := (List.getElem?_eq_some_iff.1 hsl).2
  rw [List.getElem?_map] at hx
  obtain ⟨a, ha, rfl⟩ := Option.map_eq_some_iff.1 hx
  have h1 := outL_get hp hi
  rw [List.getD, ha, Option.getD_some, hsl2] at h1
  have h2 : a < (atL (outL s p) n).length := by rw [atL_length, outL_length]; exact hb a (List.mem_of_getElem? ha)
  refine atL_bd (n := n) (pos_out hp hs) a _ l ?_ h1
  rw [List.getD, List.getElem?_eq_getElem h2]
  rfl
theorem axP_in {s : List Int} {p : List Nat} (hs : shB s = true) (hp : p.Perm (List.range s.length)) : InP (cnt s) (axP s p) := fun i hi => by
  have hc := cnt_int s
  rw [cntN_ok hs] at hc
  have hs4 := shB_iff.1 hs
  have hpos := pos_of_prod (s := s) (fun l hl => (hs4.2.1 l hl).1) (by omega)
  have h := plL_bd (fun l hl => Int.le_of_lt (hpos l hl)) (in_perm hp hpos i)
  unfold axP
  omega
def axA (p : List Nat) (A : Ar) : Ar := tgA ⟨outL A.s p, axG A.s p, 0⟩ A
theorem ax_ok {A : Ar} {p : List Nat} (hA : chkB A = true) (hp : p.Perm (List.range A.s.length)) : tgN ⟨outL A.s p, axG A.s p, 0⟩ A = 0 ∧ axA p A = ⟨A.k, outL A.s p, mvE (cnt A.s) (axP A.s p) A.e⟩ ∧ chkB (axA p A) = true := by
  obtain ⟨hs, hl, hc, _, _⟩ := chk_len hA
  have hs2 : shB (outL A.s p) = true := (shB_perm (outL_perm hp)).trans hs
  have hc2 : (cnt A.s : Int) = prodL (outL A.s p) := by rw [prodL_perm (outL_perm hp)]; exact hc
  have h := tg_tab hA hs2 hc2 hl (axP_in hs hp)
  have hw : axG A.s p = tabG (cnt A.s) (fun i => (0, axP A.s p i)) := rfl
  unfold axA
  rw [hw, h.1, h.2]
  exact ⟨rfl, rfl, chk_mv hA hs2 hc2 hl (axP_in hs hp)⟩
/-- One order of the axes behind another one. -/
def perPP (p q : List Nat) : List Nat := p.map (fun a => q.getD a 0)
theorem perPP_perm {r : Nat} {p q : List Nat} (hp : p.Perm (List.range r)) (hq : q.Perm (List.range r)) : (perPP p q).Perm (List.range r) := by
  obtain ⟨hql, _, _⟩ := perm_facts hq
  have h1 : (perPP p q).Perm ((List.range r).map (fun a => q.getD a 0)) := hp.map _
  have h2 : (List.range r).map (fun a => q.getD a 0) = q := by
    apply List.ext_getElem?
    intro i
    by_cases hi : i < r
    · rw [List.getElem?_map, List.getElem?_range hi, Option.map_some, List.getD, List.getElem?_eq_getElem (by omega)]
      rfl
    · rw [List.getElem?_eq_none (by simp; omega), List.getElem?_eq_none (by omega)]
  rw [h2] at h1
  exact h1.trans hq
theorem perPP_getD {p q : List Nat} {i : Nat} (hi : i < p.length) : (perPP p q).getD i 0 = q.getD (p.getD i 0) 0 := by
  unfold perPP
  simp [List.getD, List.getElem?_map, List.getElem?_eq_getElem hi]
theorem out_out {s : List Int} {p q : List Nat} (hp : p.Perm (List.range s.length)) (hq : q.Perm (List.range s.length)) : outL (outL s p) q = outL s (perPP p q) := by
  obtain ⟨hpl, _, hpb⟩ := perm_facts hp
  have hq' : q.Perm (List.range (outL s p).length) := by rw [outL_length]; exact hq
  refine (outL_ext (perPP_perm hp hq) (by rw [outL_length, outL_length]) (fun i hi => ?_)).symm
  rw [perPP_getD (by omega)]
  have hb : p.getD i 0 < s.length := by
    rw [List.getD, List.getElem?_eq_getElem (by omega)]
    exact hpb _ (List.getElem_mem _)
  have h1 := outL_get hq' (i := p.getD i 0) (by rw [outL_length]; exact hb)
  have h2 := outL_get hp hi
  rw [List.getElem?_eq_getElem (by rw [outL_length]; exact hb)] at h2
  rw [h1, h2]
theorem ax_ax {A : Ar} {p q : List Nat} (hA : chkB A = true) (hp : p.Perm (List.range A.s.length)) (hq : q.Perm (List.range A.s.length)) : axA q (axA p A) = axA (perPP p q) A := by
  obtain ⟨hs, hl, hc, _, _⟩ := chk_len hA
  obtain ⟨hpl, _, hpb⟩ := perm_facts hp
  obtain ⟨_, h2, h3⟩ := ax_ok hA hp
  have hsl : (axA p A).s = outL A.s p := by rw [h2]
  have hq' : q.Perm (List.range (outL A.s p).length) := by rw [outL_length]; exact hq
  rw [(ax_ok h3 (by rw [hsl]; exact hq')).2.1, h2, (ax_ok hA (perPP_perm hp hq)).2.1]
  simp only
  rw [cnt_perm (outL_perm hp), out_out hp hq]
  have hin : InP (cnt A.s) (axP (outL A.s p) q) := by
    have h := axP_in ((shB_perm (outL_perm hp)).trans hs) hq'
    rw [cnt_perm (outL_perm hp)] at h
    exact h
  rw [mvE_mvE hin]
  congr 1
  apply mvE_congr
  intro k hk
  have hs4 := shB_iff.1 hs
  have hpos := pos_of_prod (s := A.s) (fun l hl => (hs4.2.1 l hl).1) (by omega)
  have h6 := (hin k hk).1
  unfold axP at h6 ⊢
  rw [Int.toNat_of_nonneg h6, atL_plL (pos_out hp hpos) (in_perm hq' (pos_out hp hpos) k), out_out hp hq]
  congr 1
  unfold perPP
  rw [List.map_map]
  apply List.map_congr_left
  intro a ha
  have hb := hpb a ha
  have hql := (perm_facts hq).1
  show (q.map fun b => (atL (outL A.s (perPP p q)) k).getD b 0).getD a 0 = (atL (outL A.s (perPP p q)) k).getD (q.getD a 0) 0
  rw [List.getD, List.getElem?_map, List.getElem?_eq_getElem (show a < q.length by omega), show q.getD a 0 = q[a] by rw [List.getD, List.getElem?_eq_getElem (show a < q.length by omega)]; rfl]
  rfl
theorem out_id (s : List Int) : outL s (List.range s.length) = s := outL_ext (List.Perm.refl _) rfl (fun i hi => by
  rw [List.getD, List.getElem?_range hi, Option.getD_some, List.getElem?_eq_getElem hi])
theorem ax_id {A : Ar} (hA : chkB A = true) : axA (List.range A.s.length) A = A := by
  obtain ⟨hs, hl, hc, _, _⟩ := chk_len hA
  rw [(ax_ok hA (List.Perm.refl _)).2.1, out_id, mvE_id hl]
  intro k hk
  have hs4 := shB_iff.1 hs
  have h0 := cnt_int A.s
  rw [cntN_ok hs] at h0
  unfold axP
  rw [out_id]
  have h1 := range_map_getD (atL A.s k)
  rw [atL_length] at h1
  rw [h1]
  exact plL_atL (fun l hl => (hs4.2.1 l hl).1) (by omega) (by omega)
theorem about_about (r : Nat) : perPP (aboP r) (aboP r) = List.range r := by
  apply List.ext_getElem?
  intro i
  by_cases hi : i < r
  · have h1 : (aboP r)[i]? = some (r - 1 - i) := by
      unfold aboP
      rw [List.getElem?_reverse (by simp; omega), List.length_range, List.getElem?_range (by omega)]
    have h2 : (aboP r)[r - 1 - i]? = some (r - 1 - (r - 1 - i)) := by
      unfold aboP
      rw [List.getElem?_reverse (by simp; omega), List.length_range, List.getElem?_range (by omega)]
    unfold perPP
    rw [List.getElem?_map, h1, Option.map_some, List.getD, h2, List.getElem?_range hi]
    simp
    omega
  · rw [List.getElem?_eq_none (by simp [perPP, aboP]; omega), List.getElem?_eq_none (by simp; omega)]
def traA (A : Ar) : Ar := tgA (toldW A.s (traW A.s)) A
theorem traA_eq {A : Ar} (hA : chkB A = true) : traA A = axA (aboP A.s.length) A ∧ tgN (toldW A.s (traW A.s)) A = tgN ⟨outL A.s (aboP A.s.length), axG A.s (aboP A.s.length), 0⟩ A := by
  unfold traA axA toldW
  rw [(chk_len hA).1]
  exact ⟨rfl, rfl⟩
theorem tra_ok {A : Ar} (hA : chkB A = true) : tgN (toldW A.s (traW A.s)) A = 0 ∧ chkB (traA A) = true ∧ (traA A).s.length = A.s.length := by
  have h := ax_ok hA (aboP_perm _)
  rw [(traA_eq hA).1, (traA_eq hA).2]
  exact ⟨h.1, h.2.2, by rw [h.2.1]; exact outL_length _ _⟩
theorem tra_tra {A : Ar} (hA : chkB A = true) : traA (traA A) = A := by
  obtain ⟨h1, h2, h3⟩ := tra_ok hA
  rw [(traA_eq h2).1, h3, (traA_eq hA).1, ax_ax hA (aboP_perm _) (aboP_perm _), about_about, ax_id hA]
end Go.Proofs.Ytmmbdhfljabefaa
