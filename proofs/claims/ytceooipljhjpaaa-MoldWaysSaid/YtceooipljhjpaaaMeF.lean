/- mold: the plain law of catenate, of any two arrays; what a way and its function tell. -/
import Derived.Test.YtceooipljhjpaaaMeC
namespace Go.Proofs.Ytceooipljhjpaaa
open Go.RowKit Go.Shelf

theorem prodL_last {a : List Int} (h : a ≠ []) : prodL a = prodL a.dropLast * lastN a := by
  rcases nil_snoc a with rfl | ⟨f, m, rfl⟩
  · exact absurd rfl h
  · rw [List.dropLast_concat, lastN_snoc, prodL_append, prodL_one]
/-- A side's count. -/
theorem side_prod {a b : List Int} (ha : a ≠ []) (h : sdB a b = true) : prodL a = prodL (sdF a b) * sdM a b := by
  have h := of_decide_eq_true h
  unfold sdF sdM
  rw [if_neg ha, if_neg ha]
  by_cases h1 : b = [] ∨ a.length = b.length ∨ a.length = b.length + 1
  · rw [if_pos h1, if_pos h1]
    exact prodL_last ha
  · rw [if_neg h1, if_neg h1]
    by_cases h2 : a.length + 1 = b.length
    · rw [if_pos h2, if_pos h2, Int.mul_one]
    · rcases h with h | h | h | h | h
      · exact absurd h ha
      · exact absurd (.inl h) h1
      · exact absurd (.inr (.inl h)) h1
      · exact absurd h h2
      · exact absurd (.inr (.inr h)) h1
theorem sdB_comm (a b : List Int) : sdB a b = sdB b a := by
  unfold sdB
  rw [decide_eq_decide]
  constructor
  · rintro (h | h | h | h | h)
    · exact .inr (.inl h)
    · exact .inl h
    · exact .inr (.inr (.inl h.symm))
    · exact .inr (.inr (.inr (.inr h.symm)))
    · exact .inr (.inr (.inr (.inl h.symm)))
  · rintro (h | h | h | h | h)
    · exact .inr (.inl h)
    · exact .inl h
    · exact .inr (.inr (.inl h.symm))
    · exact .inr (.inr (.inr (.inr h.symm)))
    · exact .inr (.inr (.inr (.inl h.symm)))
theorem int_row {P L i : Int} (hL : 0 ≤ L) (h0 : 0 ≤ i) (h : i < P * L) : 0 < L ∧ 0 ≤ i / L ∧ i / L + 1 ≤ P ∧ 0 ≤ i % L ∧ i % L < L := by
  have hL0 : 0 < L := by
    rcases Int.lt_or_eq_of_le hL with h1 | h1
    · exact h1
    · rw [← h1, Int.mul_zero] at h
      omega
  refine ⟨hL0, Int.ediv_nonneg h0 hL, ?_, Int.emod_nonneg _ (by omega), Int.emod_lt_of_pos _ hL0⟩
  have := Int.ediv_lt_of_lt_mul hL0 h
  omega
theorem row_in {q P X t : Int} (h0 : 0 ≤ q) (h : q + 1 ≤ P) (hX : 0 ≤ X) (ht : 0 ≤ t) (ht2 : t < X) : 0 ≤ q * X + t ∧ q * X + t < P * X := by
  have h1 := Int.mul_nonneg h0 hX
  have h2 : (q + 1) * X ≤ P * X := Int.mul_le_mul_of_nonneg_right h hX
  rw [Int.add_mul, Int.one_mul] at h2
  omega
theorem catW_zero {a b : List Int} (h : (catW a b).n = 0) : shB a = true ∧ shB b = true ∧ sdB a b = true ∧ sdF a b = sdF b a ∧ shB (catS a b) = true ∧ catW a b = ⟨catS a b, catG a b, 0⟩ := by
  unfold catW at h ⊢
  split at h
  · rename_i q1
    split at h
    · rename_i q2
      split at h
      · rename_i q3
        unfold limW at h ⊢
        split at h
        · rename_i q4
          rw [if_pos q1, if_pos q2, if_pos q3, if_pos q4]
          rw [Bool.and_eq_true] at q1
          exact ⟨q1.1, q1.2, q2, q3, q4, rfl⟩
        · exact absurd h (by decide)
      · exact absurd h (by decide)
    · exact absurd h (by decide)
  · exact absurd h (by decide)
/-- Catenate's places lie within. -/
theorem cat_in {A B : Ar} (hA : chkB A = true) (hB : chkB B = true) (h0 : (catW A.s B.s).n = 0) {x : Int × Int} (hx : x ∈ (catW A.s B.s).g) : (x.1 = 0 ∧ 0 ≤ x.2 ∧ x.2 < A.e.length) ∨ (x.1 = 1 ∧ 0 ≤ x.2 ∧ x.2 < B.e.length) := by
  obtain ⟨a1, a2, _⟩ := chkB_iff.1 hA
  obtain ⟨b1, b2, _⟩ := chkB_iff.1 hB
  obtain ⟨_, _, h1, h2, h3, h4⟩ := catW_zero h0
  rw [h4] at hx
  obtain ⟨i, hi, rfl⟩ := List.mem_map.1 hx
  have hi := List.mem_range.1 hi
  rw [cntN_ok h3] at hi
  have hp := sd_facts a1 b1
  have hq := sd_facts b1 a1
  have hS : prodL (catS A.s B.s) = prodL (sdF A.s B.s) * (sdM A.s B.s + sdM B.s A.s) := by unfold catS; rw [prodL_append, prodL_one]
  rw [hS] at hi
  obtain ⟨r1, r2, r3, r4, r5⟩ := int_row (P := prodL (sdF A.s B.s)) (L := sdM A.s B.s + sdM B.s A.s) (i := (i : Int)) (by omega) (by omega) (by omega)
  unfold catP
  split
  · rename_i q
    left
    refine ⟨rfl, ?_⟩
    by_cases ha : A.s = []
    · have : (A.e.length : Int) = 1 := by rw [← a2, ha]; rfl
      simp only [ha, decide_true, if_true]
      omega
    · rw [← a2, side_prod ha h1]
      simp only [decide_eq_false ha, Bool.false_eq_true, if_false]
      exact row_in r2 r3 (by omega) r4 q
  · rename_i q
    right
    refine ⟨rfl, ?_⟩
    by_cases hb : B.s = []
    · have : (B.e.length : Int) = 1 := by rw [← b2, hb]; rfl
      simp only [hb, decide_true, if_true]
      omega
    · rw [← b2, side_prod hb (by rw [sdB_comm]; exact h1), ← h2]
      simp only [decide_eq_false hb, Bool.false_eq_true, if_false]
      have := row_in (q := (i : Int) / (sdM A.s B.s + sdM B.s A.s)) (P := prodL (sdF A.s B.s)) (X := sdM B.s A.s) (t := (i : Int) % (sdM A.s B.s + sdM B.s A.s) - sdM A.s B.s) r2 r3 (by omega) (by omega) (by omega)
      omega
/-- Two arrays of one kind, whose shapes go together. -/
theorem cat_law {A B : Ar} (hA : chkB A = true) (hB : chkB B = true) (hk : A.k = B.k) (h0 : (catW A.s B.s).n = 0) :
    goN A.k (catW A.s B.s).s (catW A.s B.s).g [A, B] = 0 ∧ goA A.k (catW A.s B.s).s (catW A.s B.s).g [A, B] = ⟨A.k, (catW A.s B.s).s, (catW A.s B.s).g.map (pickL A.k [A, B])⟩ := by
  obtain ⟨h1, h2⟩ := catW_ok h0
  refine go_law (chk_len hA).2 (fun C hC => ?_) h1 h2 (fun x hx => ?_)
  · simp only [List.mem_cons, List.not_mem_nil, or_false] at hC
    rcases hC with rfl | rfl
    · exact ⟨hA, rfl⟩
    · exact ⟨hB, hk.symm⟩
  · rcases cat_in hA hB h0 hx with ⟨q, h3, h4⟩ | ⟨q, h3, h4⟩
    · exact .inr ⟨0, A, rfl, by rw [q]; rfl, h3, h4⟩
    · exact .inr ⟨1, B, rfl, by rw [q]; rfl, h3, h4⟩
/-- What a way and its function tell of one another. -/
def TellOk (Y : Wy) (A B : Ar) (m : Int) : Prop :=
  (Y.n ≠ 0 → m = Y.n) ∧ (Y.n = 0 → m = 0 ∧ (shB Y.s = true ∧ (Y.g.length : Int) = prodL Y.s) ∧ (goN A.k Y.s Y.g [A, A] = 0 ∧ goA A.k Y.s Y.g [A, A] = B) ∧ B.e.length ≤ 1000000 ∧ B.s.length ≤ 1000000)
theorem tell_len {Y : Wy} {k : Int} {f : Int × Int → Int} (h1 : shB Y.s = true) (h2 : (Y.g.length : Int) = prodL Y.s) : (⟨k, Y.s, Y.g.map f⟩ : Ar).e.length ≤ 1000000 ∧ (⟨k, Y.s, Y.g.map f⟩ : Ar).s.length ≤ 1000000 := by
  obtain ⟨q1, q2, q3⟩ := shB_iff.1 h1
  simp only [List.length_map]
  omega
theorem tell_one {Y : Wy} {L A : Ar} (hL : chkB L = true) (hA : chkB A = true) (hok : Y.n = 0 → shB Y.s = true ∧ (Y.g.length : Int) = prodL Y.s) (hin : ∀ x ∈ Y.g, x.1 = -1 ∨ (x.1 = 0 ∧ 0 ≤ x.2 ∧ x.2 < A.e.length)) : TellOk Y A (mgA Y L A) (mgN Y L A) := by
  unfold mgA mgN
  rw [hL, hA]
  constructor
  · intro h
    simp only [Bool.and_self, if_true, if_neg h]
  · intro h
    obtain ⟨h1, h2, h3, h4⟩ := way_one hA hok hin h
    obtain ⟨q1, q2⟩ := hok h
    simp only [Bool.and_self, if_true, if_pos h]
    refine ⟨h1, ⟨q1, q2⟩, ⟨h2, h3⟩, ?_⟩
    rw [h4]
    exact tell_len q1 q2
theorem tell_cat {A : Ar} (hA : chkB A = true) : TellOk (catW A.s A.s) A (catA A A) (catE A A) := by
  unfold catA catE
  rw [hA]
  constructor
  · intro h
    simp only [Bool.and_self, if_true, if_neg h]
  · intro h
    obtain ⟨h1, h2⟩ := cat_law hA hA rfl h
    obtain ⟨q1, q2⟩ := catW_ok h
    simp only [Bool.and_self, if_true, if_pos h]
    refine ⟨h1, ⟨q1, q2⟩, ⟨h1, trivial⟩, ?_⟩
    rw [h2]
    exact tell_len q1 q2
end Go.Proofs.Ytceooipljhjpaaa
