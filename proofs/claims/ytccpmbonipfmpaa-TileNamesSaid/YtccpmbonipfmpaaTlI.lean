/- Tiles' bytes tell the tile. -/
import Derived.Test.YtccpmbonipfmpaaTlH
import Derived.Test.YtccpmbonipfmpaaOctB
namespace Go.Proofs.Ytccpmbonipfmpaa
open Go.RowKit

def In64 (n : Int) : Prop := -9223372036854775808 ≤ n ∧ n ≤ 9223372036854775807
theorem be_inj (k a b : Nat) (hk : k ≤ 8) (ha : a < 2 ^ (8 * k)) (hb : b < 2 ^ (8 * k)) (h : be k a = be k b) : a = b := by
  rw [← wholeM_be k a hk ha, ← wholeM_be k b hk hb, h]
theorem be8_inj (a b : Int) (ha : In64 a) (hb : In64 b) (h : be8 a = be8 b) : a = b := by
  unfold be8 at h
  have h1 := be_inj 8 _ _ (Nat.le_refl _) (show (a % 18446744073709551616).toNat < 2 ^ (8 * 8) by have h2 : (a % 18446744073709551616).toNat < 18446744073709551616 := (by omega); exact h2) (show (b % 18446744073709551616).toNat < 2 ^ (8 * 8) by have h2 : (b % 18446744073709551616).toNat < 18446744073709551616 := (by omega); exact h2) h
  unfold In64 at ha hb
  omega
theorem be8_length (a : Int) : (be8 a).length = 8 := be_length _ _
theorem elems_inj : ∀ (l m : List Int), l.length = m.length → (∀ x ∈ l, In64 x) → (∀ x ∈ m, In64 x) → elemsL l = elemsL m → l = m
  | [], [], _, _, _, _ => rfl
  | [], _ :: _, h, _, _, _ => by simp at h
  | _ :: _, [], h, _, _, _ => by simp at h
  | x :: l, y :: m, h, hl, hm, he => by
    unfold elemsL at he
    rw [List.flatMap_cons, List.flatMap_cons] at he
    obtain ⟨h1, h2⟩ := List.append_inj he (by rw [be8_length, be8_length])
    rw [be8_inj x y (hl _ (List.mem_cons_self ..)) (hm _ (List.mem_cons_self ..)) h1, elems_inj l m (by simpa using h) (fun z hz => hl _ (List.mem_cons_of_mem _ hz)) (fun z hz => hm _ (List.mem_cons_of_mem _ hz)) h2]
theorem head_inj (f g : Int) (n1 n2 k1 k2 a b : Nat) (hf : In64 f) (hg : In64 g) (hn1 : n1 < 4096) (hn2 : n2 < 4096) (hk1 : k1 < 256) (hk2 : k2 < 256) (ha : a < 4294967296) (hb : b < 4294967296) (h : headL f n1 k1 a = headL g n2 k2 b) : f = g ∧ n1 = n2 ∧ k1 = k2 ∧ a = b := by
  unfold headL at h
  obtain ⟨h, h4⟩ := List.append_inj h (by simp [be_length, be8_length])
  obtain ⟨h, h3⟩ := List.append_inj h (by simp [be_length, be8_length])
  obtain ⟨h, h2⟩ := List.append_inj h (by simp [be_length])
  obtain ⟨_, h1⟩ := List.append_inj h (by simp)
  exact ⟨be8_inj f g hf hg h2, be_inj 4 _ _ (by decide) (by omega) (by omega) h3, be_inj 1 _ _ (by decide) (by omega) (by omega) h1, be_inj 4 _ _ (by decide) (by omega) (by omega) h4⟩
theorem body_inj (f g : Int) (n1 n2 k1 k2 s : Nat) (l m : List Int) (hf : In64 f) (hg : In64 g) (hn1 : n1 < 4096) (hn2 : n2 < 4096) (hk1 : k1 < 256) (hk2 : k2 < 256) (hl : ∀ x ∈ l, In64 x) (hm : ∀ x ∈ m, In64 x) (ha : l.length < 4294967296) (hb : m.length < 4294967296)
    (h : bodyL f n1 k1 l s = bodyL g n2 k2 m s) : f = g ∧ n1 = n2 ∧ k1 = k2 ∧ l = m := by
  unfold bodyL at h
  rw [List.append_assoc, List.append_assoc] at h
  obtain ⟨h1, h2⟩ := List.append_inj h (by rw [headL_length, headL_length])
  obtain ⟨e1, e2, e3, e4⟩ := head_inj f g n1 n2 k1 k2 _ _ hf hg hn1 hn2 hk1 hk2 ha hb h1
  obtain ⟨h3, _⟩ := List.append_inj h2 (by rw [elemsL_length, elemsL_length, e4])
  exact ⟨e1, e2, e3, elems_inj l m e4 hl hm h3⟩
theorem tile_inj (f g n1 n2 k1 k2 s : Int) (l m : List Int) (hf : In64 f) (hg : In64 g) (hl : ∀ x ∈ l, In64 x) (hm : ∀ x ∈ m, In64 x) (c1 : checkB f n1 k1 l s = true) (c2 : checkB g n2 k2 m s = true) :
    decide (tileL f n1 k1 l s = tileL g n2 k2 m s) = sameB f n1 k1 l g n2 k2 m := by
  obtain ⟨⟨s1, s2⟩, _, ⟨a1, a2⟩, hk1, hl1⟩ := check_bounds c1
  obtain ⟨_, _, ⟨b1, b2⟩, hk2, hl2⟩ := check_bounds c2
  unfold tileL
  rw [if_pos c1, if_pos c2]
  have key : sealL (bodyL f n1.toNat k1.toNat l s.toNat) = sealL (bodyL g n2.toNat k2.toNat m s.toNat) → f = g ∧ n1 = n2 ∧ k1 = k2 ∧ l = m := by
    intro h
    unfold sealL at h
    obtain ⟨h1, _⟩ := List.append_inj h (by rw [bodyL_length _ _ _ _ _ (by omega), bodyL_length _ _ _ _ _ (by omega)])
    obtain ⟨e1, e2, e3, e4⟩ := body_inj f g _ _ _ _ _ l m hf hg (by omega) (by omega) (by omega) (by omega) hl hm (by omega) (by omega) h1
    exact ⟨e1, by omega, by omega, e4⟩
  unfold sameB
  by_cases h : f = g ∧ n1 = n2 ∧ k1 = k2 ∧ l = m
  · obtain ⟨rfl, rfl, rfl, rfl⟩ := h
    simp
  · rw [decide_eq_false (fun e => h (key e))]
    by_cases e1 : f = g
    · by_cases e2 : n1 = n2
      · by_cases e3 : k1 = k2
        · rw [decide_eq_false (fun e4 => h ⟨e1, e2, e3, e4⟩)]; simp
        · rw [beq_eq_false_iff_ne.2 e3]; simp
      · rw [beq_eq_false_iff_ne.2 e2]; simp
    · rw [beq_eq_false_iff_ne.2 e1]; simp
theorem check_file {f g n k : Int} {l : List Int} {s : Int} (h : checkB f n k l s = true) (hg : 1 ≤ g) : checkB g n k l s = true := by
  unfold checkB at *
  rw [Bool.and_eq_true, Bool.and_eq_true] at h ⊢
  exact ⟨h.1, decide_eq_true hg, h.2.2⟩
end Go.Proofs.Ytccpmbonipfmpaa
