/- pick: the plain law of index: places by axes. -/
import Derived.Test.YtnjnajbdpaaikaaArE
namespace Go.Proofs.Ytnjnajbdpaaikaa
open Go.RowKit

/-- An axis that was handed in: all of it, or places. -/
structure Ax where
  all : Bool
  a : Ar
def shp (l : Int) (x : Ax) : List Int := if x.all then [l] else x.a.s
def mny (l : Int) (x : Ax) : Int := if x.all then l else (x.a.e.length : Int)
def plc (x : Ax) (k : Int) : Int := if x.all then k else x.a.e.getD k.toNat 0 - 1
/-- The shape that comes out. -/
def ixS : List Int → List Ax → List Int
  | l :: s, x :: r => shp l x ++ ixS s r
  | _, _ => []
/-- The place of the n-th element that is picked. -/
def ixP : List Int → List Ax → Int → Int
  | l :: s, x :: r, n => plc x (n / prodL (ixS s r) % mny l x) * prodL s + ixP s r n
  | _, _, _ => 0
/-- Where each element comes from, part by part. -/
def frm : List Int → List Ax → List Int → List Int
  | l :: s, x :: r, at_ => plc x (plL (shp l x) (at_.take (shp l x).length)) :: frm s r (at_.drop (shp l x).length)
  | _, _, _ => []
/-- An axis that may be. -/
def axB (x : Ax) : Bool := x.all || chkB x.a
def rgtB (l : Int) (x : Ax) : Bool := x.all || !x.a.e.any (fun n => decide (n < 1) || decide (n > l))
def rgtL : List Int → List Ax → Bool
  | l :: s, x :: r => rgtB l x && rgtL s r
  | _, _ => true
def ixE (s : List Int) (L : List Ax) : Int :=
  if shB s then (if L.all axB then (if L.length = s.length then (if L.any (fun x => !x.all && decide (x.a.k = 2)) then 5 else if shB (ixS s L) then (if rgtL s L then 0 else 6) else 9) else 3) else 110) else 110
theorem prodL_pos : ∀ {s : List Int}, (∀ l ∈ s, 0 < l) → 0 < prodL s
  | [], _ => by decide
  | a :: r, h => Int.mul_pos (h a (by simp)) (prodL_pos (fun l hl => h l (List.mem_cons_of_mem _ hl)))
theorem prod_shp {l : Int} {x : Ax} (h : axB x = true) : prodL (shp l x) = mny l x := by
  unfold shp mny
  cases hx : x.all with
  | true => simp [prodL]
  | false =>
    unfold axB at h
    rw [hx, Bool.false_or] at h
    exact (chkB_iff.1 h).2.1
theorem ixS_nonneg : ∀ {s : List Int} {L : List Ax}, (∀ l ∈ s, 0 ≤ l) → (∀ x ∈ L, axB x = true) → ∀ l ∈ ixS s L, 0 ≤ l
  | [], L, _, _, l, h => by cases L <;> cases h
  | m :: s, [], _, _, l, h => by cases h
  | m :: s, x :: r, hs, hx, l, h => by
    unfold ixS at h
    rcases List.mem_append.1 h with h | h
    · unfold shp at h
      cases ha : x.all with
      | true => rw [ha] at h; simp at h; rw [h]; exact hs m (by simp)
      | false =>
        rw [ha] at h
        have := hx x (by simp)
        unfold axB at this
        rw [ha, Bool.false_or] at this
        exact ((shB_iff.1 (chkB_iff.1 this).1).2.1 l (by simpa using h)).1
    · exact ixS_nonneg (fun l hl => hs l (List.mem_cons_of_mem _ hl)) (fun y hy => hx y (List.mem_cons_of_mem _ hy)) l h
theorem frm_length : ∀ {s : List Int} {L : List Ax} (xs : List Int), L.length = s.length → (frm s L xs).length = s.length
  | [], [], xs, _ => rfl
  | m :: s, [], xs, h => by simp at h
  | [], x :: r, xs, h => by simp at h
  | m :: s, x :: r, xs, h => by
    unfold frm
    rw [List.length_cons, frm_length _ (by simpa using h), List.length_cons]
/-- By the document's places the same comes out. -/
theorem ixP_frm : ∀ {s : List Int} {L : List Ax} (n : Int), L.length = s.length → (∀ x ∈ L, axB x = true) → (∀ l ∈ ixS s L, 0 < l) → (∀ l ∈ s, 0 ≤ l) → plL s (frm s L (atL (ixS s L) n)) = ixP s L n
  | [], [], n, _, _, _, _ => rfl
  | m :: s, [], n, h, _, _, _ => by simp at h
  | [], x :: r, n, h, _, _, _ => by simp at h
  | m :: s, x :: r, n, h, hx, hp, hs => by
    have hp2 : ∀ l ∈ ixS s r, 0 < l := fun l hl => hp l (by unfold ixS; exact List.mem_append_right _ hl)
    have hp1 : ∀ l ∈ shp m x, 0 < l := fun l hl => hp l (by unfold ixS; exact List.mem_append_left _ hl)
    have h0 : 0 ≤ prodL (ixS s r) := prodL_nonneg _ (fun l hl => Int.le_of_lt (hp2 l hl))
    have hl : (atL (shp m x) (n / prodL (ixS s r))).length = (shp m x).length := atL_length _ _
    have ih := ixP_frm (s := s) (L := r) n (by simpa using h) (fun y hy => hx y (List.mem_cons_of_mem _ hy)) hp2 (fun l hl => hs l (List.mem_cons_of_mem _ hl))
    unfold ixS frm ixP
    rw [atL_append _ _ _ h0, ← hl, List.take_left, List.drop_left, plL_atL_mod _ _ hp1, prod_shp (hx x (by simp))]
    have e := plL_append [m] s [plc x (n / prodL (ixS s r) % mny m x)] (frm s r (atL (ixS s r) n)) rfl
    simp only [List.singleton_append, plL_one] at e
    rw [e, ih]
theorem plc_bd {l k : Int} {x : Ax} (hr : rgtB l x = true) (h0 : 0 ≤ k) (h1 : k < mny l x) : 0 ≤ plc x k ∧ plc x k < l := by
  unfold rgtB at hr
  unfold plc
  unfold mny at h1
  cases hx : x.all with
  | true => rw [hx] at h1; simpa using ⟨h0, h1⟩
  | false =>
    rw [hx] at hr h1
    simp only [Bool.false_eq_true, if_false, Bool.false_or, Bool.not_eq_true'] at hr h1 ⊢
    obtain ⟨j, rfl⟩ := Int.eq_ofNat_of_zero_le h0
    have hj : j < x.a.e.length := by omega
    rw [show ((j : Int)).toNat = j from rfl, show x.a.e.getD j 0 = x.a.e[j] by simp [List.getD, hj]]
    rw [List.any_eq_false] at hr
    have := hr _ (List.getElem_mem hj)
    simp at this
    omega
theorem ixP_bd : ∀ {s : List Int} {L : List Ax} (n : Int), L.length = s.length → rgtL s L = true → 0 ≤ n → (∀ x ∈ L, axB x = true) → (∀ l ∈ ixS s L, 0 < l) → (∀ l ∈ s, 0 ≤ l) → 0 ≤ ixP s L n ∧ ixP s L n < prodL s
  | [], [], n, _, _, _, _, _, _ => by unfold ixP prodL; exact ⟨Int.le_refl _, by decide⟩
  | m :: s, [], n, h, _, _, _, _, _ => by simp at h
  | [], x :: r, n, h, _, _, _, _, _ => by simp at h
  | m :: s, x :: r, n, h, hr, hn, hx, hp, hs => by
    unfold rgtL at hr
    rw [Bool.and_eq_true] at hr
    have hp2 : ∀ l ∈ ixS s r, 0 < l := fun l hl => hp l (by unfold ixS; exact List.mem_append_right _ hl)
    have hp1 : ∀ l ∈ shp m x, 0 < l := fun l hl => hp l (by unfold ixS; exact List.mem_append_left _ hl)
    have ih := ixP_bd (s := s) (L := r) n (by simpa using h) hr.2 hn (fun y hy => hx y (List.mem_cons_of_mem _ hy)) hp2 (fun l hl => hs l (List.mem_cons_of_mem _ hl))
    have hm : 0 < mny m x := by
      rw [← prod_shp (hx x (by simp))]
      exact prodL_pos hp1
    have hb := plc_bd (k := n / prodL (ixS s r) % mny m x) hr.1 (Int.emod_nonneg _ (by omega)) (Int.emod_lt_of_pos _ hm)
    obtain ⟨q, hq⟩ : ∃ q, plc x (n / prodL (ixS s r) % mny m x) = q := ⟨_, rfl⟩
    rw [ixP, prodL]
    rw [hq] at hb ⊢
    obtain ⟨P, hP⟩ : ∃ P, prodL s = P := ⟨_, rfl⟩
    rw [hP] at ih ⊢
    have h1 : 0 ≤ q * P := Int.mul_nonneg hb.1 (by omega)
    have h2 : (q + 1) * P ≤ m * P := Int.mul_le_mul_of_nonneg_right (by omega) (by omega)
    rw [Int.add_mul, Int.one_mul] at h2
    omega
/-- An axis of the program's: its length, whether it is all of it, its places. -/
structure Px where
  l : Int
  all : Bool
  e : List Int
def mnP (x : Px) : Int := if x.all then x.l else (x.e.length : Int)
def plP (x : Px) (k : Int) : Int := if x.all then k else x.e.getD k.toNat 0 - 1
/-- The place of the n-th one, the last axis first. -/
def ixR : List Px → Int → Int → Int → Int
  | [], _, p, _ => p
  | x :: r, n, p, b => ixR r (n / mnP x) (p + b * plP x (n % mnP x)) (b * x.l)
def ixF : List Px → Int → Int
  | [], _ => 0
  | x :: r, n => plP x (n / prodL (r.map mnP) % mnP x) * prodL (r.map Px.l) + ixF r n
theorem ixF_snoc : ∀ (l : List Px) (x : Px) (n : Int), 0 ≤ mnP x → ixF (l ++ [x]) n = ixF l (n / mnP x) * x.l + plP x (n % mnP x)
  | [], x, n, _ => by simp [ixF, prodL]
  | y :: l, x, n, h => by
    rw [List.cons_append, ixF, ixF, ixF_snoc l x n h, List.map_append, List.map_append, prodL_append, prodL_append]
    simp only [List.map_cons, List.map_nil, prodL, Int.mul_one]
    rw [Int.mul_comm (prodL (l.map mnP)) (mnP x), ← Int.ediv_ediv_of_nonneg h, Int.add_mul, ← Int.mul_assoc, Int.add_assoc]
theorem ixR_eq : ∀ (r : List Px) (n p b : Int), (∀ x ∈ r, 0 ≤ mnP x) → ixR r n p b = p + b * ixF r.reverse n
  | [], n, p, b, _ => by simp [ixR, ixF]
  | x :: r, n, p, b, h => by
    rw [ixR, ixR_eq r _ _ _ (fun y hy => h y (List.mem_cons_of_mem _ hy)), List.reverse_cons, ixF_snoc _ _ _ (h x (by simp))]
    generalize ixF r.reverse (n / mnP x) = F
    rw [Int.mul_add, Int.mul_comm F x.l, ← Int.mul_assoc]
    omega
def pxL : List Int → List Ax → List Px
  | l :: s, x :: r => ⟨l, x.all, x.a.e⟩ :: pxL s r
  | _, _ => []
theorem pxL_mn : ∀ {s : List Int} {L : List Ax}, (∀ x ∈ L, axB x = true) → prodL ((pxL s L).map mnP) = prodL (ixS s L)
  | [], L, _ => by cases L <;> rfl
  | m :: s, [], _ => rfl
  | m :: s, x :: r, h => by
    rw [pxL, ixS, prodL_append, prod_shp (h x (by simp)), List.map_cons, prodL, pxL_mn (fun y hy => h y (List.mem_cons_of_mem _ hy))]
    rfl
theorem pxL_l : ∀ {s : List Int} {L : List Ax}, L.length = s.length → (pxL s L).map Px.l = s
  | [], [], _ => rfl
  | m :: s, [], h => by simp at h
  | [], x :: r, h => by simp at h
  | m :: s, x :: r, h => by rw [pxL, List.map_cons, pxL_l (by simpa using h)]
theorem ixF_ixP : ∀ {s : List Int} {L : List Ax} (n : Int), L.length = s.length → (∀ x ∈ L, axB x = true) → ixF (pxL s L) n = ixP s L n
  | [], [], _, _, _ => rfl
  | m :: s, [], _, h, _ => by simp at h
  | [], x :: r, _, h, _ => by simp at h
  | m :: s, x :: r, n, h, hx => by
    have h1 := fun y hy => hx y (List.mem_cons_of_mem _ hy)
    rw [pxL, ixF, ixP, pxL_mn h1, pxL_l (by simpa using h), ixF_ixP n (by simpa using h) h1]
    rfl
theorem pxL_length : ∀ {s : List Int} {L : List Ax}, L.length = s.length → (pxL s L).length = s.length
  | [], [], _ => rfl
  | m :: s, [], h => by simp at h
  | [], x :: r, h => by simp at h
  | m :: s, x :: r, h => by rw [pxL, List.length_cons, pxL_length (by simpa using h), List.length_cons]
/-- Index' way. -/
def ixW (s : List Int) (L : List Ax) : Wy := if ixE s L = 0 then ⟨ixS s L, (List.range (prodL (ixS s L)).toNat).map (fun (i : Nat) => (0, ixP s L i)), 0⟩ else noW (ixE s L)
theorem ixE_zero {s : List Int} {L : List Ax} (h : ixE s L = 0) : shB s = true ∧ L.all axB = true ∧ L.length = s.length ∧ L.any (fun x => !x.all && decide (x.a.k = 2)) = false ∧ shB (ixS s L) = true ∧ rgtL s L = true := by
  unfold ixE at h
  split at h
  · rename_i h1
    split at h
    · rename_i h2
      split at h
      · rename_i h3
        split at h
        · cases h
        · rename_i h4
          split at h
          · rename_i h5
            split at h
            · rename_i h6
              exact ⟨h1, h2, h3, by simpa using h4, h5, h6⟩
            · cases h
          · cases h
      · cases h
    · cases h
  · cases h
end Go.Proofs.Ytnjnajbdpaaikaa
