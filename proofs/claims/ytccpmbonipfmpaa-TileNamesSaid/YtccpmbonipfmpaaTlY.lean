/- The tile that stands in a tile's bytes; the document's Decode. -/
import Derived.Test.YtccpmbonipfmpaaTlX
import Derived.Test.YtccpmbonipfmpaaTlI
namespace Go.Proofs.Ytccpmbonipfmpaa
open Go.RowKit

theorem rv_at (xs : List UInt8) (p s : Nat) (hz : szd s = true) (hp : p + s ≤ xs.length) : rVal (xs.drop p) s = wholeM ((xs.take (p + s)).drop p) := by
  unfold rVal
  have e : rErr (xs.drop p) s = 0 := by
    unfold rErr
    rw [hz, if_pos rfl, if_pos (by rw [List.length_drop, Int.toNat_natCast]; omega)]
  rw [if_pos e, Int.toNat_natCast, List.drop_take, Nat.add_sub_cancel_left]
theorem seg_at {xs A M Z : List UInt8} {p s : Nat} (h : xs = A ++ (M ++ Z)) (hA : A.length = p) (hM : M.length = s) : (xs.take (p + s)).drop p = M := by
  subst h hA hM
  rw [List.drop_take, Nat.add_sub_cancel_left, List.drop_left' rfl, List.take_left' rfl]
theorem rv_seg {xs A M Z : List UInt8} {p s : Nat} (hz : szd s = true) (h : xs = A ++ (M ++ Z)) (hA : A.length = p) (hM : M.length = s) : rVal (xs.drop p) s = wholeM M := by
  rw [rv_at xs p s hz (by subst h; rw [List.length_append, List.length_append]; omega), seg_at h hA hM]
theorem int_of_be8 (x : Int) (h : In64 x) : IntKind.i64.wrap (wholeM (be8 x) : Nat) = x := by
  unfold be8
  rw [wholeM_be 8 _ (Nat.le_refl _) (show (x % 18446744073709551616).toNat < 2 ^ (8 * 8) by have h2 : (x % 18446744073709551616).toNat < 18446744073709551616 := (by omega); exact h2)]
  unfold In64 at h
  rw [IntKind.wrap_i64]
  omega
theorem fit_eq (s : Int) (h : 1 ≤ s ∧ s ≤ 64) : fitT s = s * 16 - 3 := by
  unfold fitT sizB
  rw [decide_eq_true h.1, decide_eq_true h.2]
  rfl
theorem elemsL_at (l : List Int) (j : Nat) (h : j < l.length) : elemsL l = elemsL (l.take j) ++ (be8 l[j] ++ elemsL (l.drop (j + 1))) := by
  have e : l = l.take j ++ (l[j] :: l.drop (j + 1)) := by
    rw [← List.drop_eq_getElem_cons h, List.take_append_drop]
  conv => lhs; rw [e]
  unfold elemsL
  rw [List.flatMap_append, List.flatMap_cons]
/-- What is read of a tile's bytes is the tile. -/
theorem parse_tile (f no k s : Int) (l : List Int) (hf : In64 f) (hl : ∀ x ∈ l, In64 x) (hc : checkB f no k l s = true) (xs : List UInt8) (hx : tileL f no k l s = xs) :
    xs.length = s.toNat * 128 ∧ pF xs = f ∧ ((pNo xs : Nat) : Int) = no ∧ ((pK xs : Nat) : Int) = k ∧ rVal (xs.drop 16) 4 = l.length ∧ elemsP xs (pM xs) = l := by
  obtain ⟨⟨s1, s2⟩, _, ⟨a1, a2⟩, hk1, hl1⟩ := check_bounds hc
  unfold tileL at hx
  rw [if_pos hc] at hx
  have hlen : xs.length = s.toNat * 128 := by rw [← hx, sealL_length, bodyL_length _ _ _ _ _ (by omega)]; omega
  obtain ⟨Z, hZ⟩ : ∃ Z, xs = headL f no.toNat k.toNat l.length ++ (elemsL l ++ Z) := ⟨_, by rw [← hx]; unfold sealL bodyL; rw [List.append_assoc, List.append_assoc]⟩
  have hh : headL f no.toNat k.toNat l.length = [81, 84, 1] ++ (be 1 k.toNat ++ (be8 f ++ (be 4 no.toNat ++ be 4 l.length))) := by unfold headL; simp only [List.append_assoc]
  have kK : rVal (xs.drop 3) ((1 : Nat) : Int) = k.toNat := by
    rw [rv_seg (xs := xs) (p := 3) (A := [81, 84, 1]) (M := be 1 k.toNat) (Z := (be8 f ++ (be 4 no.toNat ++ be 4 l.length)) ++ (elemsL l ++ Z)) rfl (by rw [hZ, hh]; simp only [List.append_assoc]) rfl (be_length _ _)]
    exact wholeM_be 1 _ (by decide) (by omega)
  have kF : rVal (xs.drop 4) ((8 : Nat) : Int) = wholeM (be8 f) :=
    rv_seg (A := [81, 84, 1] ++ be 1 k.toNat) (M := be8 f) (Z := (be 4 no.toNat ++ be 4 l.length) ++ (elemsL l ++ Z)) rfl (by rw [hZ, hh]; simp only [List.append_assoc]) (by rw [List.length_append, be_length]; rfl) (be_length _ _)
  have kN : rVal (xs.drop 12) ((4 : Nat) : Int) = no.toNat := by
    rw [rv_seg (xs := xs) (p := 12) (A := [81, 84, 1] ++ (be 1 k.toNat ++ be8 f)) (M := be 4 no.toNat) (Z := be 4 l.length ++ (elemsL l ++ Z)) rfl (by rw [hZ, hh]; simp only [List.append_assoc]) (by rw [List.length_append, List.length_append, be_length, be8_length]; rfl) (be_length _ _)]
    exact wholeM_be 4 _ (by decide) (by omega)
  have kL : rVal (xs.drop 16) ((4 : Nat) : Int) = l.length := by
    rw [rv_seg (xs := xs) (p := 16) (A := [81, 84, 1] ++ (be 1 k.toNat ++ (be8 f ++ be 4 no.toNat))) (M := be 4 l.length) (Z := elemsL l ++ Z) rfl (by rw [hZ, hh]; simp only [List.append_assoc]) (by rw [List.length_append, List.length_append, List.length_append, be_length, be8_length, be_length]; rfl) (be_length _ _)]
    exact wholeM_be 4 _ (by decide) (by omega)
  refine ⟨hlen, ?_, ?_, ?_, kL, ?_⟩
  · unfold pF
    rw [show rVal (xs.drop 4) 8 = wholeM (be8 f) from kF]
    exact int_of_be8 f hf
  · unfold pNo
    rw [show rVal (xs.drop 12) 4 = no.toNat from kN]
    omega
  · unfold pK
    rw [show rVal (xs.drop 3) 1 = k.toNat from kK]
    omega
  · unfold elemsP pM
    rw [show rVal (xs.drop 16) 4 = l.length from kL, show min (min l.length 4096) ((xs.length - 20) / 8) = l.length by omega]
    apply List.ext_getElem
    · rw [List.length_map, List.length_range]
    · intro j h1 h2
      rw [List.getElem_map, List.getElem_range]
      rw [show rVal (xs.drop (20 + 8 * j)) 8 = wholeM (be8 l[j]) from rv_seg (s := 8) (A := headL f no.toNat k.toNat l.length ++ elemsL (l.take j)) (M := be8 l[j]) (Z := elemsL (l.drop (j + 1)) ++ Z) rfl (by rw [hZ, elemsL_at l j h2]; simp only [List.append_assoc]) (by rw [List.length_append, headL_length, elemsL_length, List.length_take]; omega) (be8_length _)]
      exact int_of_be8 _ (hl _ (List.getElem_mem h2))
theorem elemsP_in (xs : List UInt8) (m : Nat) : ∀ x ∈ elemsP xs m, In64 x := by
  intro x hx
  unfold elemsP at hx
  obtain ⟨j, _, rfl⟩ := List.mem_map.1 hx
  unfold In64
  rw [IntKind.wrap_i64]
  omega
theorem decOk_parts {xs : List UInt8} (h : decOk xs = true) : soundB xs = true ∧ tileL (pF xs) (pNo xs : Nat) (pK xs : Nat) (elemsP xs (pM xs)) ((xs.length / 128 : Nat) : Int) = xs ∧ checkB (pF xs) (pNo xs : Nat) (pK xs : Nat) (elemsP xs (pM xs)) ((xs.length / 128 : Nat) : Int) = true := by
  unfold decOk at h
  rw [Bool.and_eq_true] at h
  have ht := of_decide_eq_true h.2
  refine ⟨h.1, ht, ?_⟩
  have hl := sound_long h.1
  cases hc : checkB (pF xs) (pNo xs : Nat) (pK xs : Nat) (elemsP xs (pM xs)) ((xs.length / 128 : Nat) : Int) with
  | true => rfl
  | false =>
    unfold tileL at ht
    rw [hc, if_neg (by decide)] at ht
    rw [← ht] at hl
    simp at hl
/-- A tile's bytes are a tile's. -/
theorem decOk_tile (f no k s : Int) (l : List Int) (hf : In64 f) (hl : ∀ x ∈ l, In64 x) (hc : checkB f no k l s = true) (xs : List UInt8) (hx : tileL f no k l s = xs) : decOk xs = true ∧ decF xs = f ∧ decN xs = no ∧ decK xs = k ∧ decL xs = l ∧ decE xs = 0 := by
  obtain ⟨⟨s1, s2⟩, _, ⟨a1, a2⟩, hk1, hl1⟩ := check_bounds hc
  obtain ⟨p0, p1, p2, p3, p4, p5⟩ := parse_tile f no k s l hf hl hc xs hx
  have hs : ((xs.length / 128 : Nat) : Int) = s := by omega
  have ho : decOk xs = true := by
    unfold decOk
    rw [p1, p2, p3, p5, hs, hx]
    have hsd : soundB xs = true := by
      unfold tileL at hx
      rw [if_pos hc] at hx
      rw [← hx]
      exact sound_seal _ s.toNat (by rw [hx]; exact p0) (by omega) (by omega)
    rw [hsd]
    simp
  obtain ⟨e1, e2, e3, e4, e5⟩ := dec_true xs ho
  exact ⟨ho, e1.trans p1, e2.trans p2, e3.trans p3, e4.trans p5, e5⟩
theorem many_fit {xs : List UInt8} (h : decOk xs = true) : ((rVal (xs.drop 16) 4 : Nat) : Int) ≤ fitT ((xs.length / 128 : Nat) : Int) := by
  obtain ⟨h1, h2, h3⟩ := decOk_parts h
  obtain ⟨_, _, _, _, p4, _⟩ := parse_tile _ _ _ _ _ (parse_bounds xs).2.2.2 (elemsP_in xs _) h3 xs h2
  rw [p4]
  unfold checkB at h3
  simp only [Bool.and_eq_true] at h3
  exact of_decide_eq_true h3.2.2.2.2.2
theorem reads5 (xs : List UInt8) (h : 20 ≤ xs.length) : Reads5 xs (pF xs) (pNo xs) (pK xs) (rVal (xs.drop 16) 4) := by
  refine ⟨?_, ?_, ⟨xs[3], List.getElem?_eq_getElem (by omega), ?_⟩, ?_⟩
  · unfold pF
    rw [show rVal (xs.drop 4) 8 = wholeM ((xs.take (4 + 8)).drop 4) from rv_at xs 4 8 rfl (by omega)]
  · unfold pNo
    rw [show rVal (xs.drop 12) 4 = wholeM ((xs.take (12 + 4)).drop 12) from rv_at xs 12 4 rfl (by omega)]
  · unfold pK
    rw [show rVal (xs.drop 3) 1 = wholeM ((xs.take (3 + 1)).drop 3) from rv_at xs 3 1 rfl (by omega)]
    have e : (xs.take (3 + 1)).drop 3 = [xs[3]] := by
      rw [List.drop_take, List.drop_eq_getElem_cons (show 3 < xs.length by omega)]
      rfl
    rw [e]
    have := (xs[3]).toNat_lt
    show _ = (0 * 256 + (xs[3]).toNat) % 18446744073709551616
    omega
  · rw [show rVal (xs.drop 16) 4 = wholeM ((xs.take (16 + 4)).drop 16) from rv_at xs 16 4 rfl (by omega)]
theorem elemsQ_eq (xs : List UInt8) (h : 20 + 8 * rVal (xs.drop 16) 4 ≤ xs.length) (h2 : xs.length ≤ 8192) : elemsQ xs (rVal (xs.drop 16) 4) = elemsP xs (pM xs) := by
  unfold elemsQ elemsP pM
  rw [show min (min (rVal (xs.drop 16) 4) 4096) ((xs.length - 20) / 8) = rVal (xs.drop 16) 4 by omega]
  apply List.map_congr_left
  intro j hj
  have hj := List.mem_range.1 hj
  unfold elemQ
  rw [show rVal (xs.drop (20 + 8 * j)) 8 = wholeM ((xs.take (20 + 8 * j + 8)).drop (20 + 8 * j)) from rv_at xs (20 + 8 * j) 8 rfl (by omega), show 20 + 8 * j + 8 = 28 + 8 * j by omega]
theorem r5decode_any (v : Value) (xs : List UInt8) (w : World) (hS : Sl w v (xs.map B)) (hl : xs.length + 100 ≤ 140737488355328) : Calls Try.prog 17 #[v] w (GaveT w (decF xs) (decN xs) (decK xs) (decL xs) (decE xs)) := by
  have hs : ∀ w', Chg (fun _ => False) w w' → Calls Try.prog 19 #[v] w' (GaveBo w' (soundB xs)) := fun w' hC => r5sound_any v xs w' (hS.fr hC) hl
  cases h : soundB xs with
  | false =>
    have hk : decOk xs = false := by unfold decOk; rw [h]; rfl
    obtain ⟨a, b, c, d, e⟩ := dec_false xs hk
    rw [a, b, c, d, e]
    rw [h] at hs
    exact r5dec_no v w hs
  | true =>
    rw [h] at hs
    have hlg := sound_long h
    have hD := dec_cases xs h
    obtain ⟨ao, c, rfl, _⟩ := hS.form
    rw [List.length_map] at hS hs ⊢
    have hfq : fitT ((xs.length / 128 : Nat) : Int) = ((xs.length / 128 : Nat) : Int) * 16 - 3 := fit_eq _ (by omega)
    have bb := parse_bounds xs
    refine r5dec_main ao _ c (xs.length / 128) (pNo xs) (pK xs) (rVal (xs.drop 16) 4) (pF xs) (fitT ((xs.length / 128 : Nat) : Int)) xs w hS rfl hl (by omega) (w64 _ (by omega)) (reads5 xs (by omega)) bb.2.1 bb.2.2.1 hs (fun w => r5fit_any _ w) (fun hq => by omega) (checkE (pF xs) (pNo xs : Nat) (pK xs : Nat) (elemsQ xs (rVal (xs.drop 16) 4)) ((xs.length / 128 : Nat) : Int)) _ _ _ _ (tileL (pF xs) (pNo xs : Nat) (pK xs : Nat) (elemsQ xs (rVal (xs.drop 16) 4)) ((xs.length / 128 : Nat) : Int)) _ ?_ ?_
    · by_cases hq : fitT ((xs.length / 128 : Nat) : Int) < ((rVal (xs.drop 16) 4 : Nat) : Int)
      · have hk : decOk xs = false := by
          cases hk : decOk xs with
          | false => rfl
          | true => have := many_fit hk; omega
        obtain ⟨a, b, c, d, e⟩ := dec_false xs hk
        exact .inl ⟨hq, a, b, c, d, e⟩
      · refine .inr ⟨by omega, ?_⟩
        rw [elemsQ_eq xs (by omega) (by omega)]
        exact hD
    · intro w' v hv
      by_cases hq : (elemsQ xs (rVal (xs.drop 16) 4)).length ≤ 140737488355328
      · exact r5enc_any _ _ _ _ v _ w' hv hq
      · exact absurd (show (elemsQ xs (rVal (xs.drop 16) 4)).length ≤ 140737488355328 by rw [elemsQ_length]; omega) hq
end Go.Proofs.Ytccpmbonipfmpaa
