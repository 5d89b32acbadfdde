/- The plain law of the document's catenate. -/
import Derived.Test.YtceooipljhjpaaaMeF
import Derived.Test.YtceooipljhjpaaaMeJ
namespace Go.Proofs.Ytceooipljhjpaaa
open Go.RowKit Go.Shelf

def strL (a b : List Int) : List Int := if a.length + 1 = b.length then a ++ [1] else a
def exX (a b : List Int) : List Int := if a = [] then b.dropLast ++ [1] else strL a b
theorem exX_ok {a b : List Int} (h : sdB a b = true) : exX a b = sdF a b ++ [sdM a b] := by
  have h := of_decide_eq_true h
  unfold exX sdF sdM
  by_cases ha : a = []
  · rw [if_pos ha, if_pos ha, if_pos ha]
  · rw [if_neg ha, if_neg ha, if_neg ha]
    unfold strL
    by_cases h1 : b = [] ∨ a.length = b.length ∨ a.length = b.length + 1
    · have h2 : ¬ a.length + 1 = b.length := by
        rcases h1 with h1 | h1 | h1
        · rw [h1]; simp
        · omega
        · omega
      rw [if_pos h1, if_pos h1, if_neg h2]
      rcases nil_snoc a with rfl | ⟨f, m, rfl⟩
      · exact absurd rfl ha
      · rw [List.dropLast_concat, lastN_snoc]
    · have h2 : a.length + 1 = b.length := by
        rcases h with h | h | h | h | h
        · exact absurd h ha
        · exact absurd (.inl h) h1
        · exact absurd (.inr (.inl h)) h1
        · exact h
        · exact absurd (.inr (.inr h)) h1
      rw [if_neg h1, if_neg h1, if_pos h2, if_pos h2, if_pos h2]
theorem exX_no {a b : List Int} (h : sdB a b = false) : (exX a b).length ≠ (exX b a).length := by
  have h := of_decide_eq_false h
  simp only [not_or] at h
  obtain ⟨h1, h2, h3, h4, h5⟩ := h
  unfold exX
  rw [if_neg h1, if_neg h2]
  unfold strL
  rw [if_neg h4, if_neg (fun e => h5 e.symm)]
  exact h3
theorem exX_len {a b : List Int} (h : sdB a b = true) : (exX a b).length = (sdF a b).length + 1 := by rw [exX_ok h]; simp
theorem sdF_len {a b : List Int} (h : sdB a b = true) : (sdF a b).length = (sdF b a).length := by
  have h := of_decide_eq_true h
  unfold sdF
  by_cases ha : a = []
  · by_cases hb : b = []
    · rw [if_pos ha, if_pos hb, ha, hb]
    · rw [if_pos ha, if_neg hb, if_pos (.inl ha)]
  · by_cases hb : b = []
    · rw [if_neg ha, if_pos (.inl hb), if_pos hb]
    · rw [if_neg ha, if_neg hb]
      rcases h with h | h | h | h | h
      · exact absurd h ha
      · exact absurd h hb
      · rw [if_pos (.inr (.inl h)), if_pos (.inr (.inl h.symm)), List.length_dropLast, List.length_dropLast, h]
      · rw [if_neg (by simp only [hb, false_or]; omega), if_pos h, if_pos (.inr (.inr h.symm)), List.length_dropLast]
        omega
      · rw [if_pos (.inr (.inr h)), if_neg (by simp only [ha, false_or]; omega), if_pos h.symm, List.length_dropLast]
        omega
theorem shB_exX {a b : List Int} (ha : shB a = true) (hb : shB b = true) (h0 : a ≠ []) : shB (exX a b) = true := by
  unfold exX
  rw [if_neg h0]
  unfold strL
  split
  · rename_i h
    obtain ⟨q1, q2, q3⟩ := shB_iff.1 ha
    have hl := (shB_iff.1 hb).1
    refine shB_iff.2 ⟨by simp; omega, ?_, by rw [prodL_append, prodL_one, Int.mul_one]; exact q3⟩
    intro l hl
    rcases List.mem_append.1 hl with hl | hl
    · exact q2 l hl
    · rw [List.mem_singleton.1 hl]; decide
  · exact ha
theorem pl_row {f : List Int} {m q y : Int} (hf : ∀ l ∈ f, 0 < l) (h0 : 0 ≤ q) (h1 : q < prodL f) (hy0 : 0 ≤ y) (hy1 : y < m) : inL (f ++ [m]) (atL f q ++ [y]) = true ∧ plL (f ++ [m]) (atL f q ++ [y]) = q * m + y := by
  refine ⟨?_, ?_⟩
  · rw [inL_snoc _ _ _ _ (atL_length _ _), inL_atL hf, decide_eq_true hy0, decide_eq_true hy1]
    rfl
  · rw [plL_snoc _ _ _ _ (atL_length _ _), plL_atL (fun l hl => Int.le_of_lt (hf l hl)) h0 h1]
theorem cat_prod (a b : List Int) : prodL (catS a b) = prodL (sdF a b) * (sdM a b + sdM b a) := by unfold catS; rw [prodL_append, prodL_one]
/-- What is known of a place of what is put together. -/
structure CatI (a b : List Int) (i : Nat) : Prop where
  at_ : atL (catS a b) (i : Int) = atL (sdF a b) ((i : Int) / (sdM a b + sdM b a)) ++ [(i : Int) % (sdM a b + sdM b a)]
  t0 : 0 ≤ (i : Int) % (sdM a b + sdM b a)
  t1 : (i : Int) % (sdM a b + sdM b a) < sdM a b + sdM b a
  p1 : a ≠ [] → (i : Int) % (sdM a b + sdM b a) < sdM a b → plN (exX a b) (atL (sdF a b) ((i : Int) / (sdM a b + sdM b a)) ++ [(i : Int) % (sdM a b + sdM b a)]) = (i : Int) / (sdM a b + sdM b a) * sdM a b + (i : Int) % (sdM a b + sdM b a)
  p2 : b ≠ [] → ¬ (i : Int) % (sdM a b + sdM b a) < sdM a b → plN (exX b a) (atL (sdF a b) ((i : Int) / (sdM a b + sdM b a)) ++ [(i : Int) % (sdM a b + sdM b a) - sdM a b]) = (i : Int) / (sdM a b + sdM b a) * sdM b a + (i : Int) % (sdM a b + sdM b a) - sdM a b
theorem cat_i {a b : List Int} (ha : shB a = true) (hb : shB b = true) (hs : sdB a b = true) (hF : sdF a b = sdF b a) (hS : shB (catS a b) = true) {i : Nat} (hi : (i : Int) < prodL (catS a b)) : CatI a b i := by
  have hp := sd_facts ha hb
  have hq := sd_facts hb ha
  have hfn : ∀ l ∈ sdF a b, 0 ≤ l := fun l hl => ((shB_iff.1 hS).2.1 l (by unfold catS; simp [hl])).1
  rw [cat_prod] at hi
  obtain ⟨r1, r2, r3, r4, r5⟩ := int_row (P := prodL (sdF a b)) (L := sdM a b + sdM b a) (i := (i : Int)) (by omega) (by omega) hi
  have hpos := pos_of_prod (s := sdF a b) hfn (by omega)
  refine ⟨by unfold catS; rw [atL_snoc _ _ _ (by omega)], r4, r5, fun h0 ht => ?_, fun h0 ht => ?_⟩
  · have h := pl_row (m := sdM a b) (y := (i : Int) % (sdM a b + sdM b a)) hpos r2 (by omega) r4 ht
    rw [← exX_ok hs] at h
    rw [plN_ok (by unfold plB; rw [shB_exX ha hb h0, h.1]; rfl), h.2]
  · have h := pl_row (f := sdF a b) (m := sdM b a) (q := (i : Int) / (sdM a b + sdM b a)) (y := (i : Int) % (sdM a b + sdM b a) - sdM a b) hpos r2 (by omega) (by omega) (by omega)
    rw [hF, ← exX_ok (by rw [sdB_comm]; exact hs)] at h
    rw [hF, plN_ok (by unfold plB; rw [shB_exX hb ha h0, h.1]; rfl), h.2]
    omega
end Go.Proofs.Ytceooipljhjpaaa
