/- Notes more: the plain law. -/
import Derived.Test.YtpiboaoifcajdaaNtH
namespace Go.Proofs.Ytpiboaoifcajdaa
open Go.RowKit Go.Shelf

theorem takeN_cons (p : List UInt8) (r : List (List UInt8)) : takeN (p :: r) = if decE p = 0 then (if (noteP p).k = 1 then [] else if (noteP p).k = 4 ∨ (noteP p).k = 5 then [noteP p] else noteP p :: takeN r) else [] := rfl
theorem uniq_cons (x : Nt) (r : List Nt) : uniq (x :: r) = if (fileOf r x.k x.a x.b).isSome then uniq r else x :: uniq r := rfl
theorem takeN_more : ∀ (r q : List (List UInt8)), (takeN r).length = r.length → (∀ y, (takeN r).getLast? = some y → y.k ≤ 3) → takeN (r ++ q) = takeN r ++ takeN q
  | [], _, _, _ => rfl
  | p :: r, q, h1, h2 => by
    rw [List.cons_append]
    rw [takeN_cons] at h1 h2 ⊢
    rw [takeN_cons]
    by_cases hd : decE p = 0
    · rw [if_pos hd] at h1 h2
      rw [if_pos hd, if_pos hd]
      by_cases h1' : (noteP p).k = 1
      · rw [if_pos h1'] at h1
        simp at h1
      · rw [if_neg h1'] at h1 h2
        rw [if_neg h1', if_neg h1']
        by_cases h4 : (noteP p).k = 4 ∨ (noteP p).k = 5
        · rw [if_pos h4] at h2
          have := h2 (noteP p) (by simp)
          omega
        · rw [if_neg h4] at h1 h2
          rw [if_neg h4, if_neg h4]
          rw [takeN_more r q (by simpa using h1) (fun y hy => h2 y (by rw [List.getLast?_cons, hy]; rfl))]
          rfl
    · rw [if_neg hd] at h1
      simp at h1
theorem log_more (s : Int) (ps q : List (List UInt8)) (hb : begN s ps = true) (h1 : (noteN s ps).length + 1 = ps.length) (h2 : ∀ y, (noteN s ps).getLast? = some y → y.k ≤ 3) : begN s (ps ++ q) = true ∧ noteN s (ps ++ q) = noteN s ps ++ takeN q := by
  match ps, hb with
  | p :: r, hb =>
    have hb2 : begN s (p :: r ++ q) = true := hb
    refine ⟨hb2, ?_⟩
    unfold noteN at h1 h2 ⊢
    rw [if_pos hb] at h1 h2
    rw [if_pos hb, if_pos hb2, List.cons_append, List.tail_cons, List.tail_cons]
    rw [List.tail_cons] at h1 h2
    exact takeN_more r q (by simpa using h1) h2
theorem fil_append (l m : List Nt) : fil (l ++ m) = fil l ++ fil m := List.filter_append ..
theorem doneN_cons {z : Nt} {fl : List Nt} (h : z.k ≠ 2) (s : Int) : doneN (z :: fl) s = doneN fl s := by
  unfold doneN
  rw [uniq_cons]
  split
  · rfl
  · rw [List.filter_cons, if_neg (by simp [doneQ, h])]
theorem noteN_len (s : Int) (ps : List (List UInt8)) : (noteN s ps).length ≤ ps.length := by
  have h := (runG_len s (enumP ps (goodN ps))).1
  have h2 := (log_spec s ps).2.1
  have h3 := goodN_le ps
  unfold logOf at h2
  rw [h2, enumP_length] at h
  omega
theorem takeN_may : ∀ (r : List (List UInt8)), ∀ x ∈ takeN r, x.may = true ∧ x.ok
  | [], x, h => by simp [takeN] at h
  | p :: r, x, h => by
    unfold takeN at h
    have hp : decE p = 0 → (noteP p).may = true ∧ (noteP p).ok := fun hd => ⟨(dec_enc (by unfold decE at hd; by_cases hk : decOk p = true; exact hk; rw [if_neg hk] at hd; cases hd)).2.1, noteP_ok p⟩
    by_cases hd : decE p = 0
    · rw [if_pos hd] at h
      by_cases h1 : (noteP p).k = 1
      · rw [if_pos h1] at h; simp at h
      · rw [if_neg h1] at h
        by_cases h4 : (noteP p).k = 4 ∨ (noteP p).k = 5
        · rw [if_pos h4] at h
          rw [List.mem_singleton.1 h]
          exact hp hd
        · rw [if_neg h4] at h
          rcases List.mem_cons.1 h with rfl | h
          · exact hp hd
          · exact takeN_may r x h
    · rw [if_neg hd] at h
      simp at h
theorem noteN_may (s : Int) (ps : List (List UInt8)) : ∀ x ∈ noteN s ps, x.may = true ∧ x.ok := by
  unfold noteN
  split
  · exact takeN_may _
  · intro x h; simp at h
theorem fil_sub {l : List Nt} {x : Nt} (h : x ∈ (fil l).reverse) : x ∈ l := (List.mem_filter.1 (List.mem_reverse.1 h)).1
theorem fil_len (l : List Nt) : ((fil l).reverse).length ≤ l.length := by
  rw [List.length_reverse]
  exact List.length_filter_le _ _
theorem may_a {x : Nt} (h : x.may = true) : 0 ≤ x.a ∧ x.a ≤ 1048576 := (may_bounds h).2.1
theorem done_of {W : World} {lb mb base : Nat} {bg stp : Bool} {l fl : List Nt} {v : Value} (h : LogAt W lb mb base ⟨bg, l, fl, stp⟩ v) (hok : ∀ x ∈ fl, x.ok) (hlen : fl.length ≤ 1000000) (s n : Int) (hn : (doneN fl s : Int) = n) : Calls Try.prog 20 #[.pointer (some ⟨lb, 0, none⟩), .int .i64 s] W (fun e w' => e = .returned (.int .i64 n) ∧ Chg (fun _ => False) W w') := hn ▸ done_any h hok hlen s
theorem steps_of {W : World} {lb mb base : Nat} {bg stp : Bool} {l fl : List Nt} {v : Value} (h : LogAt W lb mb base ⟨bg, l, fl, stp⟩ v) (hok : ∀ x ∈ fl, x.ok) (hbd : ∀ x ∈ fl, 0 ≤ x.a ∧ x.a ≤ 1048576) (n : Int) (hn : stN fl = n) : Calls Try.prog 26 #[.pointer (some ⟨lb, 0, none⟩)] W (fun e w' => e = .returned (.int .i64 n) ∧ Chg (fun _ => False) W w') := hn ▸ steps_any h hok hbd
theorem run_of {W : World} {lb mb base : Nat} {bg stp : Bool} {l fl : List Nt} {v : Value} (h : LogAt W lb mb base ⟨bg, l, fl, stp⟩ v) (hok : ∀ x ∈ fl, x.ok) (a b : Int) (ha : In64 a) (hb : In64 b) (r : Int) (q : Bool) (hr : fileOf fl 3 a b = if q then some r else none) (h0 : q = false → r = 0) :
    Calls Try.prog 19 #[.pointer (some ⟨lb, 0, none⟩), .int .i64 a, .int .i64 b] W (fun e w' => e = .returned (.tuple #[.int .i64 r, .bool q]) ∧ Chg (fun _ => False) W w') := by
  have e : FileV (fileOf fl 3 a b) = .tuple #[.int .i64 r, .bool q] := by
    rw [hr]
    cases q with
    | true => rfl
    | false => rw [h0 rfl]; rfl
  exact e ▸ run_any h hok a b ha hb
theorem tile_of {W : World} {lb mb base : Nat} {bg stp : Bool} {l fl : List Nt} {v : Value} (h : LogAt W lb mb base ⟨bg, l, fl, stp⟩ v) (hok : ∀ x ∈ fl, x.ok) (a b : Int) (ha : In64 a) (hb : In64 b) (r : Int) (q : Bool) (hr : fileOf fl 2 a b = if q then some r else none) (h0 : q = false → r = 0) :
    Calls Try.prog 23 #[.pointer (some ⟨lb, 0, none⟩), .int .i64 a, .int .i64 b] W (fun e w' => e = .returned (.tuple #[.int .i64 r, .bool q]) ∧ Chg (fun _ => False) W w') := by
  have e : FileV (fileOf fl 2 a b) = .tuple #[.int .i64 r, .bool q] := by
    rw [hr]
    cases q with
    | true => rfl
    | false => rw [h0 rfl]; rfl
  exact e ▸ tile_any h hok a b ha hb
end Go.Proofs.Ytpiboaoifcajdaa
