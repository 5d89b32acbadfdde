/- What a log comes to, in plain words. -/
import Derived.Test.YtpiboaoifcajdaaNtP
namespace Go.Proofs.Ytpiboaoifcajdaa
open Go.RowKit Go.Shelf

/-- A number's bytes are read as the number. -/
theorem rd_be (pre post : List UInt8) (s n : Nat) (hz : szd (s : Int) = true) (hs : s ≤ 8) (hn : n < 2 ^ (8 * s)) : rVal ((pre ++ (be s n ++ post)).drop pre.length) s = n ∧ rPos ((pre ++ (be s n ++ post)).drop pre.length) s pre.length = pre.length + s := by
  rw [List.drop_left]
  have hl : s ≤ (be s n ++ post).length := by rw [List.length_append, be_length]; omega
  have he : rErr (be s n ++ post) (s : Int) = 0 := by
    unfold rErr
    rw [hz, Int.toNat_natCast]
    simp only [if_true]
    rw [if_pos hl]
  unfold rVal rPos
  rw [he, if_pos rfl, if_pos rfl, Int.toNat_natCast, List.take_left' (be_length s n), wholeM_be s n hs hn]
  exact ⟨rfl, rfl⟩
theorem dec_noteL {k a b n : Nat} (hm : mayB k a b n = true) (hn : n ≤ 9223372036854775807) : decOk (noteL k a b n) = true ∧ noteP (noteL k a b n) = ⟨k, a, b, n⟩ := by
  obtain ⟨hk, ha, hb, _⟩ := may_bounds hm
  have e0 : noteL k a b n = [] ++ (be 1 k ++ (be 4 a ++ (be 4 b ++ be 8 n))) := by unfold noteL; simp
  have e1 : noteL k a b n = be 1 k ++ (be 4 a ++ (be 4 b ++ be 8 n)) := by unfold noteL; simp
  have e2 : noteL k a b n = (be 1 k ++ be 4 a) ++ (be 4 b ++ be 8 n) := by unfold noteL; simp
  have e3 : noteL k a b n = (be 1 k ++ be 4 a ++ be 4 b) ++ (be 8 n ++ []) := by unfold noteL; simp
  obtain ⟨k1, k2⟩ := rd_be [] (be 4 a ++ (be 4 b ++ be 8 n)) 1 k rfl (by decide) (by omega)
  rw [← e0] at k1 k2
  have p1 : rp1 (noteL k a b n) = 1 := k2
  obtain ⟨a1, a2⟩ := rd_be (be 1 k) (be 4 b ++ be 8 n) 4 a rfl (by decide) (by omega)
  rw [← e1, be_length] at a1 a2
  have p2 : rp2 (noteL k a b n) = 5 := by unfold rp2; rw [p1]; exact a2
  obtain ⟨b1, b2⟩ := rd_be (be 1 k ++ be 4 a) (be 8 n) 4 b rfl (by decide) (by omega)
  rw [← e2, List.length_append, be_length, be_length] at b1 b2
  have p3 : rp3 (noteL k a b n) = 9 := by unfold rp3; rw [p2]; exact b2
  obtain ⟨n1, _⟩ := rd_be (be 1 k ++ be 4 a ++ be 4 b) [] 8 n rfl (by decide) (by omega)
  rw [← e3, List.length_append, List.length_append, be_length, be_length, be_length] at n1
  have q1 : rK (noteL k a b n) = k := k1
  have q2 : rA (noteL k a b n) = a := by unfold rA; rw [p1]; exact a1
  have q3 : rB (noteL k a b n) = b := by unfold rB; rw [p2]; exact b1
  have q4 : rN (noteL k a b n) = n := by
    unfold rN
    rw [p3]
    rw [show rVal (List.drop 9 (noteL k a b n)) 8 = n from n1]
    rw [IntKind.wrap_i64]
    omega
  have hd : decOk (noteL k a b n) = true := by
    unfold decOk
    rw [q1, q2, q3, q4, hm, Int.toNat_natCast]
    simp
  refine ⟨hd, ?_⟩
  unfold noteP
  rw [if_pos hd, q1, q2, q3, q4]
theorem decE_ok {xs : List UInt8} (h : decOk xs = true) : decE xs = 0 := by unfold decE; rw [if_pos h]
theorem decE_no {xs : List UInt8} (h : decOk xs = false) : decE xs = 90 := by unfold decE; rw [h]; rfl
/-- Whether a note may be. -/
def Nt.may (x : Nt) : Bool := mayB x.k x.a x.b x.n
theorem may_mk (k a b n : Int) : (Nt.mk k a b n).may = mayB k a b n := rfl
theorem encN_mk (k a b n : Int) : encN ⟨k, a, b, n⟩ = encL k a b n := rfl
theorem enc_may' {k a b n : Nat} (h : mayB k a b n = true) (hn : n ≤ 9223372036854775807) : decE (encN ⟨k, a, b, n⟩) = 0 ∧ noteP (encN ⟨k, a, b, n⟩) = ⟨k, a, b, n⟩ ∧ encE k a b n = 0 ∧ (encN ⟨k, a, b, n⟩).length = 17 := by
  obtain ⟨e1, e2⟩ := enc_parts.2 h
  have he : encN ⟨k, a, b, n⟩ = noteL k a b n := by
    unfold encN
    simp only
    rw [e1, Int.toNat_natCast, Int.toNat_natCast, Int.toNat_natCast, Int.toNat_natCast]
  obtain ⟨d1, d2⟩ := dec_noteL h hn
  rw [he]
  exact ⟨decE_ok d1, d2, e2, noteL_length _ _ _ _⟩
theorem enc_may {x : Nt} (h : x.may = true) (hok : x.ok) : decE (encN x) = 0 ∧ noteP (encN x) = x ∧ encE x.k x.a x.b x.n = 0 ∧ (encN x).length = 17 := by
  obtain ⟨hk, ha, hb, hn⟩ := may_bounds h
  obtain ⟨k, a, b, n⟩ := x
  simp only at hk ha hb hn
  obtain ⟨k, rfl⟩ := Int.eq_ofNat_of_zero_le (show 0 ≤ k by omega)
  obtain ⟨a, rfl⟩ := Int.eq_ofNat_of_zero_le (show 0 ≤ a by omega)
  obtain ⟨b, rfl⟩ := Int.eq_ofNat_of_zero_le (show 0 ≤ b by omega)
  obtain ⟨n, rfl⟩ := Int.eq_ofNat_of_zero_le (show 0 ≤ n by omega)
  exact enc_may' h (by have := hok.2.2.2; unfold In64 at this; exact Int.ofNat_le.1 this.2)
theorem dec_short {xs : List UInt8} (h : xs.length ≠ 17) : decOk xs = false := by
  unfold decOk
  rw [decide_eq_false (fun e => h (by rw [← e]; exact noteL_length _ _ _ _)), Bool.and_false]
theorem enc_not {x : Nt} (h : x.may = false) : encN x = [] ∧ encE x.k x.a x.b x.n = 90 ∧ decE (encN x) = 90 := by
  have he : encN x = [] := (enc_parts.1 h).1
  exact ⟨he, (enc_parts.1 h).2, by rw [he]; exact decE_no (dec_short (by simp))⟩
/-- Bytes whose note may be are that note's. -/
theorem dec_enc {xs : List UInt8} (h : decOk xs = true) : encN (noteP xs) = xs ∧ (noteP xs).may = true ∧ encE (noteP xs).k (noteP xs).a (noteP xs).b (noteP xs).n = 0 := by
  have h' := h
  unfold decOk at h'
  rw [Bool.and_eq_true] at h'
  have hx := of_decide_eq_true h'.2
  have hp : noteP xs = ⟨rK xs, rA xs, rB xs, rN xs⟩ := by unfold noteP; rw [if_pos h]
  have hl : encL (rK xs) (rA xs) (rB xs) (rN xs) = xs ∧ encE (rK xs) (rA xs) (rB xs) (rN xs) = 0 := by
    obtain ⟨e1, e2⟩ := enc_parts.2 h'.1
    rw [e1, e2, Int.toNat_natCast, Int.toNat_natCast, Int.toNat_natCast]
    exact ⟨hx, rfl⟩
  have h1 := h'.1
  rw [hp]
  generalize (rK xs : Int) = k at *
  generalize (rA xs : Int) = a at *
  generalize (rB xs : Int) = b at *
  generalize rN xs = n at *
  exact ⟨hl.1, h1, hl.2⟩
theorem noteP_no {xs : List UInt8} (h : decOk xs = false) : noteP xs = ⟨0, 0, 0, 0⟩ := by unfold noteP; rw [h]; rfl
/-- The notes behind the first one. -/
def takeN : List (List UInt8) → List Nt
  | [] => []
  | p :: r => if decE p = 0 then (if (noteP p).k = 1 then [] else if (noteP p).k = 4 ∨ (noteP p).k = 5 then [noteP p] else noteP p :: takeN r) else []
/-- Whether a statement is begun. -/
def begN (s : Int) : List (List UInt8) → Bool
  | [] => false
  | p :: _ => decide (decE p = 0 ∧ (noteP p).k = 1 ∧ (noteP p).a = s)
theorem begN_cons (s : Int) (p : List UInt8) (r : List (List UInt8)) : begN s (p :: r) = decide (decE p = 0 ∧ (noteP p).k = 1 ∧ (noteP p).a = s) := rfl
/-- Its notes. -/
def noteN (s : Int) (ps : List (List UInt8)) : List Nt := if begN s ps then takeN ps.tail else []
/-- Notes of files. -/
def fil (l : List Nt) : List Nt := l.filter fun x => decide (x.k ≠ 4 ∧ x.k ≠ 5)
def goT (s : Int) (t : St) (p : List UInt8) : St := if t.stop then t else stepG s 1 t (noteP p)
theorem goT_stop (s : Int) : ∀ (r : List (List UInt8)) (t : St), t.stop = true → r.foldl (goT s) t = t
  | [], _, _ => rfl
  | p :: r, t, h => by rw [List.foldl_cons, show goT s t p = t by unfold goT; rw [if_pos h]]; exact goT_stop s r t h
theorem goT_all (s : Int) : ∀ (r : List (List UInt8)) (t : St), t.stop = false → ((r.take (goodN r)).foldl (goT s) t).bg = t.bg ∧ ((r.take (goodN r)).foldl (goT s) t).l = t.l ++ takeN r ∧ ((r.take (goodN r)).foldl (goT s) t).fl = (fil (takeN r)).reverse ++ t.fl
  | [], t, _ => by simp [takeN, fil]
  | p :: r, t, h => by
    unfold goodN takeN
    by_cases hd : decE p = 0
    · rw [if_pos hd, if_pos hd, List.take_succ_cons, List.foldl_cons]
      have hg : goT s t p = stepG s 1 t (noteP p) := by unfold goT; rw [h]; rfl
      rw [hg]
      by_cases h1 : (noteP p).k = 1
      · rw [if_pos h1]
        have e : stepG s 1 t (noteP p) = { t with stop := true } := by simp [stepG, h1]
        rw [e, goT_stop s _ _ rfl]
        simp [fil]
      · rw [if_neg h1]
        by_cases h4 : (noteP p).k = 4 ∨ (noteP p).k = 5
        · rw [if_pos h4]
          have e : stepG s 1 t (noteP p) = { t with l := t.l ++ [noteP p], stop := true } := by simp [stepG, h1, h4]
          rw [e, goT_stop s _ _ rfl]
          have hf : fil [noteP p] = [] := by
            unfold fil
            rw [List.filter_cons, decide_eq_false (by omega)]
            simp
          rw [hf]
          simp
        · rw [if_neg h4]
          have e : stepG s 1 t (noteP p) = { t with l := t.l ++ [noteP p], fl := noteP p :: t.fl } := by simp [stepG, h1, h4]
          obtain ⟨i1, i2, i3⟩ := goT_all s r (stepG s 1 t (noteP p)) (by rw [e]; exact h)
          rw [i1, i2, i3, e]
          have hf : fil (noteP p :: takeN r) = noteP p :: fil (takeN r) := by
            unfold fil
            rw [List.filter_cons, if_pos (decide_eq_true (by omega))]
          rw [hf]
          simp
    · rw [if_neg hd, if_neg hd]
      simp [fil]
theorem enumP_cons (p : List UInt8) (r : List (List UInt8)) (k : Nat) : enumP (p :: r) (k + 1) = (0, p) :: (enumP r k).map fun q => (q.1 + 1, q.2) := by
  unfold enumP
  rw [List.range_succ_eq_map, List.map_cons, List.map_map, List.map_map]
  rfl
theorem enumP_snd (r : List (List UInt8)) (k : Nat) (hk : k ≤ r.length) : (enumP r k).map (·.2) = r.take k := by
  unfold enumP
  rw [List.map_map]
  apply List.ext_getElem
  · simp; omega
  · intro i h1 h2
    simp at h1 h2
    simp [List.getD, List.getElem?_eq_getElem (show i < r.length by omega)]
theorem foldl_goT (s : Int) : ∀ (q : List (Nat × List UInt8)) (t : St), (q.map fun x => (x.1 + 1, x.2)).foldl (fun t (p : Nat × List UInt8) => if t.stop then t else stepG s p.1 t (noteP p.2)) t = (q.map (·.2)).foldl (goT s) t
  | [], _ => rfl
  | x :: q, t => by
    rw [List.map_cons, List.map_cons, List.foldl_cons, List.foldl_cons, foldl_goT s q]
    congr 1
/-- What a statement's log comes to. -/
theorem log_spec (s : Int) (ps : List (List UInt8)) : (logOf s ps).bg = begN s ps ∧ (logOf s ps).l = noteN s ps ∧ (logOf s ps).fl = (fil (noteN s ps)).reverse := by
  unfold logOf noteN
  match ps with
  | [] => simp [enumP, goodN, runG, begN, fil]
  | p :: r =>
    unfold goodN
    by_cases hd : decE p = 0
    · rw [if_pos hd, enumP_cons]
      unfold runG
      rw [List.foldl_cons, foldl_goT, enumP_snd r _ (goodN_le r)]
      simp only [Bool.false_eq_true, if_false]
      by_cases h1 : (noteP p).k = 1 ∧ (noteP p).a = s
      · have e : stepG s 0 ⟨false, [], [], false⟩ (noteP p) = ⟨true, [], [], false⟩ := by unfold stepG; rw [if_pos rfl, if_pos h1]
        have hb : begN s (p :: r) = true := by rw [begN_cons]; exact decide_eq_true ⟨hd, h1⟩
        obtain ⟨i1, i2, i3⟩ := goT_all s r ⟨true, [], [], false⟩ rfl
        rw [e, i1, i2, i3, if_pos hb, hb]
        simp
      · have e : stepG s 0 ⟨false, [], [], false⟩ (noteP p) = ⟨false, [], [], true⟩ := by unfold stepG; rw [if_pos rfl, if_neg h1]
        have hb : begN s (p :: r) = false := by rw [begN_cons]; exact decide_eq_false (fun h => h1 h.2)
        rw [e, goT_stop s _ _ rfl, hb]
        simp [fil]
    · have hb : begN s (p :: r) = false := by rw [begN_cons]; exact decide_eq_false (fun h => hd h.1)
      rw [if_neg hd, hb]
      simp [enumP, runG, fil]
end Go.Proofs.Ytpiboaoifcajdaa
