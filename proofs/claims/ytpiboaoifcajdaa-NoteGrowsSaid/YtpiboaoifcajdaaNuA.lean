/- How many tiles of a step are done, and how many steps there are: in plain words, and by a map's keys. -/
import Derived.Test.YtpiboaoifcajdaaNtZ
namespace Go.Proofs.Ytpiboaoifcajdaa
open Go.RowKit Go.Shelf Go.WideMaps Go.Maps

def dnL (st : Int) : List Nt → Nat
  | [] => 0
  | x :: r => dnL st r + (if x.k = 2 ∧ x.a = st ∧ r.any (fun y => decide (y.k = 2 ∧ y.a = x.a ∧ y.b = x.b)) = false then 1 else 0)
def stL : List Nt → Int
  | [] => 0
  | x :: r => if x.k ≤ 3 ∧ stL r ≤ x.a then x.a + 1 else stL r
def kys : List Nt → List (Int × Int × Int)
  | [] => []
  | x :: r => if (x.k, x.a, x.b) ∈ kys r then kys r else (x.k, x.a, x.b) :: kys r
theorem kys_mem : ∀ (l : List Nt) (q : Int × Int × Int), q ∈ kys l ↔ ∃ x ∈ l, q = (x.k, x.a, x.b)
  | [], q => by simp [kys]
  | y :: r, q => by
    have ih := kys_mem r
    unfold kys
    split
    · rename_i h
      rw [ih]
      constructor
      · rintro ⟨x, hx, e⟩; exact ⟨x, List.mem_cons_of_mem _ hx, e⟩
      · rintro ⟨x, hx, e⟩
        rcases List.mem_cons.1 hx with rfl | hx
        · obtain ⟨z, hz, e2⟩ := (ih _).1 h
          exact ⟨z, hz, e.trans e2⟩
        · exact ⟨x, hx, e⟩
    · rw [List.mem_cons, ih]
      constructor
      · rintro (e | ⟨x, hx, e⟩)
        · exact ⟨y, List.mem_cons_self, e⟩
        · exact ⟨x, List.mem_cons_of_mem _ hx, e⟩
      · rintro ⟨x, hx, e⟩
        rcases List.mem_cons.1 hx with rfl | hx
        · exact .inl e
        · exact .inr ⟨x, hx, e⟩
theorem kys_nodup : ∀ l : List Nt, (kys l).Nodup
  | [] => List.nodup_nil
  | x :: r => by
    unfold kys
    split
    · exact kys_nodup r
    · rename_i h; exact List.nodup_cons.2 ⟨h, kys_nodup r⟩
def dnQ (st : Int) (q : Int × Int × Int) : Bool := decide (q.1 = 2) && decide (q.2.1 = st)
theorem dn_kys (st : Int) : ∀ l : List Nt, dnL st l = (kys l).countP (dnQ st)
  | [] => rfl
  | x :: r => by
    have ih := dn_kys st r
    have hm : x.k = 2 → (r.any (fun y => decide (y.k = 2 ∧ y.a = x.a ∧ y.b = x.b)) = true ↔ (x.k, x.a, x.b) ∈ kys r) := fun h2 => by
      rw [kys_mem, List.any_eq_true]
      constructor
      · rintro ⟨y, hy, e⟩
        obtain ⟨e1, e2, e3⟩ := of_decide_eq_true e
        exact ⟨y, hy, by rw [h2, e1, e2, e3]⟩
      · rintro ⟨y, hy, e⟩
        injection e with e1 e2
        injection e2 with e2 e3
        exact ⟨y, hy, decide_eq_true ⟨by rw [← e1, h2], e2.symm, e3.symm⟩⟩
    unfold dnL kys
    rw [ih]
    by_cases h2 : x.k = 2
    · by_cases ha : x.a = st
      · by_cases hn : (x.k, x.a, x.b) ∈ kys r
        · rw [if_pos hn, if_neg]
          · rfl
          · rintro ⟨_, _, h⟩
            rw [(hm h2).2 hn] at h
            cases h
        · rw [if_neg hn, if_pos ⟨h2, ha, by rw [← Bool.not_eq_true]; exact fun h => hn ((hm h2).1 h)⟩, List.countP_cons_of_pos (by simp [dnQ, h2, ha])]
      · rw [if_neg (fun h => ha h.2.1)]
        split
        · rfl
        · rw [List.countP_cons_of_neg (by simp [dnQ, ha])]; rfl
    · rw [if_neg (fun h => h2 h.1)]
      split
      · rfl
      · rw [List.countP_cons_of_neg (by simp [dnQ, h2])]; rfl
theorem st_spec : ∀ l : List Nt, 0 ≤ stL l ∧ (∀ x ∈ l, x.k ≤ 3 → x.a + 1 ≤ stL l) ∧ (stL l = 0 ∨ ∃ x ∈ l, x.k ≤ 3 ∧ stL l = x.a + 1)
  | [] => ⟨Int.le_refl _, fun x h => (by cases h), .inl rfl⟩
  | y :: r => by
    obtain ⟨h0, h1, h2⟩ := st_spec r
    unfold stL
    split
    · rename_i h
      refine ⟨by omega, fun x hx hk => ?_, .inr ⟨y, List.mem_cons_self, h.1, rfl⟩⟩
      rcases List.mem_cons.1 hx with rfl | hx
      · exact Int.le_refl _
      · have := h1 x hx hk; omega
    · rename_i h
      refine ⟨h0, fun x hx hk => ?_, h2.imp id (fun ⟨x, hx, e⟩ => ⟨x, List.mem_cons_of_mem _ hx, e⟩)⟩
      rcases List.mem_cons.1 hx with rfl | hx
      · have : ¬ stL r ≤ x.a := fun e => h ⟨hk, e⟩
        omega
      · exact h1 x hx hk
theorem st_eq (l : List Nt) (hk : ∀ x ∈ l, x.k ≤ 3) (m : Int) (h0 : 0 ≤ m) (h1 : ∀ q ∈ kys l, q.2.1 + 1 ≤ m) (h2 : m = 0 ∨ ∃ q ∈ kys l, m = q.2.1 + 1) : m = stL l := by
  obtain ⟨s0, s1, s2⟩ := st_spec l
  have a1 : m ≤ stL l := by
    rcases h2 with rfl | ⟨q, hq, e⟩
    · exact s0
    · obtain ⟨x, hx, rfl⟩ := (kys_mem l q).1 hq
      rw [e]; exact s1 x hx (hk x hx)
  have a2 : stL l ≤ m := by
    rcases s2 with e | ⟨x, hx, _, e⟩
    · rw [e]; exact h0
    · rw [e]; exact h1 _ ((kys_mem l _).2 ⟨x, hx, rfl⟩)
  omega
theorem fil_any (r : List Nt) (a b : Int) : (r.filter fun x => decide (x.k ≠ 4 ∧ x.k ≠ 5)).any (fun y => decide (y.k = 2 ∧ y.a = a ∧ y.b = b)) = r.any (fun y => decide (y.k = 2 ∧ y.a = a ∧ y.b = b)) := by
  rw [List.any_filter]
  congr 1
  funext y
  by_cases h : y.k = 2
  · simp [h]
  · simp [h]
theorem dn_fil (st : Int) : ∀ r : List Nt, dnL st (r.filter fun x => decide (x.k ≠ 4 ∧ x.k ≠ 5)) = dnL st r
  | [] => rfl
  | x :: r => by
    by_cases h : x.k ≠ 4 ∧ x.k ≠ 5
    · rw [List.filter_cons_of_pos (by simpa using h)]
      unfold dnL
      rw [dn_fil st r, fil_any]
    · rw [List.filter_cons_of_neg (by simpa using h), dn_fil st r]
      show _ = dnL st r + _
      rw [if_neg (fun e => h (by omega))]; rfl
theorem st_fil : ∀ r : List Nt, stL (r.filter fun x => decide (x.k ≠ 4 ∧ x.k ≠ 5)) = stL r
  | [] => rfl
  | x :: r => by
    by_cases h : x.k ≠ 4 ∧ x.k ≠ 5
    · rw [List.filter_cons_of_pos (by simpa using h)]
      unfold stL
      rw [st_fil r]
    · rw [List.filter_cons_of_neg (by simpa using h), st_fil r]
      show _ = if _ then _ else _
      rw [if_neg (fun e => h (by omega))]
theorem file_fil (k a b : Int) (hk : k ≠ 4 ∧ k ≠ 5) : ∀ r : List Nt, fileOf (r.filter fun x => decide (x.k ≠ 4 ∧ x.k ≠ 5)) k a b = fileOf r k a b
  | [] => rfl
  | x :: r => by
    by_cases h : x.k ≠ 4 ∧ x.k ≠ 5
    · rw [List.filter_cons_of_pos (by simpa using h)]
      unfold fileOf
      rw [file_fil k a b hk r]
    · rw [List.filter_cons_of_neg (by simpa using h), file_fil k a b hk r]
      show _ = if _ then _ else _
      rw [if_neg (fun e => h (by omega))]
/-- Who is in the map. -/
theorem has_mem : ∀ (l : List Nt) (kl : Lit), (∀ x ∈ l, x.ok) → Maps.has (fileD l) kl = true → ∃ q ∈ kys l, kl = keyL q.1 q.2.1 q.2.2
  | [], kl, _, h => by simp [fileD, Maps.has] at h
  | x :: r, kl, hl, h => by
    have hx := hl x List.mem_cons_self
    by_cases e : kl = keyL x.k x.a x.b
    · exact ⟨(x.k, x.a, x.b), (kys_mem _ _).2 ⟨x, List.mem_cons_self, rfl⟩, e⟩
    · unfold fileD at h
      rw [has_put_other e] at h
      obtain ⟨q, hq, e2⟩ := has_mem r kl (fun y hy => hl y (List.mem_cons_of_mem _ hy)) h
      obtain ⟨y, hy, e3⟩ := (kys_mem _ _).1 hq
      exact ⟨q, (kys_mem _ _).2 ⟨y, List.mem_cons_of_mem _ hy, e3⟩, e2⟩
theorem countP_one {α : Type} [DecidableEq α] {p p' : α → Bool} {q0 : α} : ∀ {l : List α}, l.Nodup → q0 ∈ l → (∀ q ∈ l, q ≠ q0 → p' q = p q) → p q0 = false → l.countP p' = l.countP p + (if p' q0 then 1 else 0)
  | [], _, h, _, _ => by cases h
  | x :: r, hn, hm, he, h0 => by
    obtain ⟨n1, n2⟩ := List.nodup_cons.1 hn
    by_cases hx : x = q0
    · subst hx
      have hr : r.countP p' = r.countP p := List.countP_congr fun y hy => by
        rw [he y (List.mem_cons_of_mem _ hy) (fun e => n1 (e ▸ hy))]
      rw [List.countP_cons, List.countP_cons, hr, h0]
      simp
    · have hm' : q0 ∈ r := by
        rcases List.mem_cons.1 hm with e | h
        · exact absurd e.symm hx
        · exact h
      have ih := countP_one n2 hm' (fun q hq => he q (List.mem_cons_of_mem _ hq)) h0
      rw [List.countP_cons, List.countP_cons, ih, he x List.mem_cons_self hx]
      omega
end Go.Proofs.Ytpiboaoifcajdaa
