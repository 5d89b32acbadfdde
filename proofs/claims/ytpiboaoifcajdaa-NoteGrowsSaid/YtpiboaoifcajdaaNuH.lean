/- NoteGrows: the plain law: a log of fewer payloads has the first ones of its notes, and what it has done is done with more. -/
import Derived.Test.YtpiboaoifcajdaaNuG
import Derived.Test.YtpiboaoifcajdaaNtI
namespace Go.Proofs.Ytpiboaoifcajdaa
open Go.RowKit Go.Shelf

theorem takeN_take : ∀ (r : List (List UInt8)) (j : Nat), ∃ q, takeN r = takeN (r.take j) ++ q
  | [], j => ⟨[], by simp [takeN]⟩
  | p :: r, 0 => ⟨takeN (p :: r), by simp [takeN]⟩
  | p :: r, j + 1 => by
    obtain ⟨q, hq⟩ := takeN_take r j
    rw [List.take_succ_cons, takeN_cons, takeN_cons]
    by_cases h1 : decE p = 0
    · rw [if_pos h1, if_pos h1]
      by_cases h2 : (noteP p).k = 1
      · rw [if_pos h2, if_pos h2]; exact ⟨[], rfl⟩
      · rw [if_neg h2, if_neg h2]
        by_cases h3 : (noteP p).k = 4 ∨ (noteP p).k = 5
        · rw [if_pos h3, if_pos h3]; exact ⟨[], rfl⟩
        · rw [if_neg h3, if_neg h3]
          exact ⟨q, by rw [hq]; rfl⟩
    · rw [if_neg h1, if_neg h1]; exact ⟨[], rfl⟩
theorem beg_take (s : Int) (ps : List (List UInt8)) (k : Nat) (hk : 0 < k) : begN s (ps.take k) = begN s ps := by
  cases ps with
  | nil => simp
  | cons p r =>
    obtain ⟨j, rfl⟩ : ∃ j, k = j + 1 := ⟨k - 1, by omega⟩
    rfl
theorem grow_pre (s : Int) (ps : List (List UInt8)) (k : Nat) : ∃ q, noteN s ps = noteN s (ps.take k) ++ q := by
  cases ps with
  | nil => exact ⟨[], by simp⟩
  | cons p r =>
    cases k with
    | zero => exact ⟨_, by rw [List.take_zero]; rfl⟩
    | succ j =>
      obtain ⟨q, hq⟩ := takeN_take r j
      unfold noteN
      rw [beg_take s (p :: r) (j + 1) (by omega)]
      cases begN s (p :: r) with
      | false => exact ⟨[], rfl⟩
      | true => exact ⟨q, hq⟩
theorem dn_app (st : Int) (r : List Nt) : ∀ p : List Nt, dnL st r ≤ dnL st (p ++ r)
  | [] => Nat.le_refl _
  | x :: p => by
    have := dn_app st r p
    rw [List.cons_append, dn_cons]
    omega
theorem st_app (r : List Nt) : ∀ p : List Nt, stL r ≤ stL (p ++ r)
  | [] => Int.le_refl _
  | x :: p => by
    have := st_app r p
    rw [List.cons_append]
    show _ ≤ (if x.k ≤ 3 ∧ stL (p ++ r) ≤ x.a then x.a + 1 else stL (p ++ r))
    split
    · rename_i h; omega
    · exact this
theorem file_has : ∀ (l : List Nt) (x : Nt), x ∈ l → (fileOf l x.k x.a x.b).isSome = true
  | [], x, h => by cases h
  | y :: l, x, h => by
    show ((if y.k = x.k ∧ y.a = x.a ∧ y.b = x.b then some y.n else fileOf l x.k x.a x.b)).isSome = true
    split
    · rfl
    · rename_i hne
      rcases List.mem_cons.1 h with rfl | h
      · exact absurd ⟨rfl, rfl, rfl⟩ hne
      · exact file_has l x h
/-- What is done by a beginning is done by the whole. -/
theorem grow_law {A L : List Nt} (h : ∃ q, L = A ++ q) : (∀ st, dnL st (fil A).reverse ≤ dnL st (fil L).reverse) ∧ stL (fil A).reverse ≤ stL (fil L).reverse ∧ ∀ x ∈ A, (x.k = 2 ∨ x.k = 3) → (fileOf (fil L).reverse x.k x.a x.b).isSome = true := by
  obtain ⟨q, rfl⟩ := h
  refine ⟨fun st => ?_, ?_, fun x hx hk => ?_⟩
  · rw [fil_append, List.reverse_append]; exact dn_app st _ _
  · rw [fil_append, List.reverse_append]; exact st_app _ _
  · refine file_has _ x ?_
    rw [List.mem_reverse]
    unfold fil
    rw [List.mem_filter]
    exact ⟨List.mem_append_left _ hx, decide_eq_true (by omega)⟩
theorem fl_ok {l : List Nt} (h : ∀ x ∈ l, x.ok ∧ (x.k ≤ 5 ∧ 1 ≤ x.k) ∧ x.a ≤ 1048576 ∧ 0 ≤ x.a) (hl : l.length ≤ 151) : (∀ x ∈ (fil l).reverse, x.ok) ∧ (∀ x ∈ (fil l).reverse, x.k ≤ 3 ∧ x.a ≤ 1048576 ∧ 0 ≤ x.a) ∧ ((fil l).reverse).length ≤ 1000000 := by
  have h1 : ∀ x ∈ (fil l).reverse, x.ok ∧ x.k ≤ 3 ∧ x.a ≤ 1048576 ∧ 0 ≤ x.a := by
    intro x hx
    rw [List.mem_reverse] at hx
    unfold fil at hx
    rw [List.mem_filter] at hx
    have h1 := h x hx.1
    have h2 := of_decide_eq_true hx.2
    exact ⟨h1.1, by omega, h1.2.2⟩
  refine ⟨fun x hx => (h1 x hx).1, fun x hx => (h1 x hx).2, ?_⟩
  have := fil_len l
  omega
theorem pay_cut {W : World} {pa : Option Addr} {n pc : Nat} {ps : List (List UInt8)} (h : Pay W (.slice pa n pc) ps) (hn : ps.length = n) (k : Nat) (hk : k ≤ n) (hs : ∀ w, (sizeOf 24).run Try.prog w = .ok 1 w) :
    ∃ a c, Pay W (.slice a k c) (ps.take k) ∧ (∀ w, (Instr.slice 36 (.slice pa n pc) none (some (.int .i64 (k : Int))) none).run Try.prog w = .ok (.slice a k c) w) := by
  obtain ⟨vs, h1, h2, h3⟩ := h
  obtain ⟨a, c, hS, _, _, _, hcut⟩ := h1.slice 36 24 und_pays hs 0 k (Nat.zero_le _) (by omega)
  rw [Nat.sub_zero] at hS hcut
  rw [List.drop_zero] at hS
  refine ⟨a, c, ⟨vs.take k, hS, by rw [List.length_take, List.length_take, h2], fun j u xs hu hx => ?_⟩, hcut rfl⟩
  have hj : j < k := by
    have := (List.getElem?_eq_some_iff.1 hu).1
    rw [List.length_take] at this
    omega
  rw [List.getElem?_take_of_lt hj] at hu hx
  exact h3 j u xs hu hx
end Go.Proofs.Ytpiboaoifcajdaa
