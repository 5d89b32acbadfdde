/- fold: arrays that statements go through. -/
import Derived.Test.YtjmlekdgipinfaaMp49
import Derived.Test.YtjmlekdgipinfaaMp51
namespace Go.Proofs.Ytjmlekdgipinfaa
open Go.RowKit Go.Shelf

def grt16 (m : Nat) (A : Ar) : Bool := decide (m < A.e.length) || decide (100 < A.s.length)
/-- Two arrays, one behind the other, in block b. -/
def Two6 (w : World) (b : Nat) (sa ea ta fa : Option Addr) (cs ce ct cf : Nat) (A B : Ar) : Prop :=
  (w.cell? ⟨b, 1, none⟩ = some (.slice sa A.s.length cs) ∧ w.cell? ⟨b, 2, none⟩ = some (.slice ea A.e.length ce)) ∧ w.cell? ⟨b, 4, none⟩ = some (.slice ta B.s.length ct) ∧ w.cell? ⟨b, 5, none⟩ = some (.slice fa B.e.length cf)
set_option maxRecDepth 100000 in
set_option maxHeartbeats 1000000 in
theorem great16_any (m : Nat) (sa ea ta fa : Option Addr) (cs ce ct cf b : Nat) (A B : Ar) (w : World) (h : Two6 w b sa ea ta fa cs ce ct cf A B) (g : Bool) (hg : (grt16 m A || grt16 m B) = g) : Calls Try.prog 12 #[.int .i64 m, .slice (some ⟨b, 0, none⟩) 2 2] w (SaidB w g) := by
  obtain ⟨⟨y1, y2⟩, z1, z2⟩ := h
  obtain ⟨nA, hnA⟩ : ∃ n, A.s.length = n := ⟨_, rfl⟩
  obtain ⟨lA, hlA⟩ : ∃ n, A.e.length = n := ⟨_, rfl⟩
  obtain ⟨nB, hnB⟩ : ∃ n, B.s.length = n := ⟨_, rfl⟩
  obtain ⟨lB, hlB⟩ : ∃ n, B.e.length = n := ⟨_, rfl⟩
  unfold grt16 at hg
  rw [hnA, hlA, hnB, hlB] at hg
  rw [hnA] at y1
  rw [hlA] at y2
  rw [hnB] at z1
  rw [hlB] at z2
  obtain ⟨p1, hp1⟩ : ∃ p, decide (m < lA) = p := ⟨_, rfl⟩
  obtain ⟨p2, hp2⟩ : ∃ p, decide (100 < nA) = p := ⟨_, rfl⟩
  obtain ⟨p3, hp3⟩ : ∃ p, decide (m < lB) = p := ⟨_, rfl⟩
  obtain ⟨p4, hp4⟩ : ∃ p, decide (100 < nB) = p := ⟨_, rfl⟩
  have q2 : decide ((100 : Int) < (nA : Int)) = p2 := by rw [← hp2]; exact decide_eq_decide.2 (by omega)
  have q4 : decide ((100 : Int) < (nB : Int)) = p4 := by rw [← hp4]; exact decide_eq_decide.2 (by omega)
  rw [hp1, hp2, hp3, hp4] at hg
  have HG := Lib.hid hg
  clear hnA hlA hnB hlB hg
  go_enter Try.func12, Try.ntmps12
  go_wp2_with fail
  go_loopw [8] (fun vi wr => wr = w ∧ ((vi = .int .i64 0) ∨ (vi = .int .i64 1 ∧ p1 = false ∧ p2 = false) ∨ (vi = .int .i64 2 ∧ p1 = false ∧ p2 = false ∧ p3 = false ∧ p4 = false))) (fun vi _ => 2 - (intOf vi).toNat)
  case atStart => exact ⟨rfl, .inl rfl⟩
  case round =>
    obtain ⟨rfl, h⟩ := hrel
    rcases h with rfl | ⟨rfl, rfl, rfl⟩ | ⟨rfl, rfl, rfl, rfl, rfl⟩
    · cases p1 with
      | true =>
        go_wp2
        go_ret
        exact ⟨by rw [← HG.out]; rfl, by first | rfl | trivial⟩
      | false =>
        cases p2 with
        | true =>
          go_wp2
          go_ret
          exact ⟨by rw [← HG.out]; rfl, by first | rfl | trivial⟩
        | false =>
          go_wp2
          go_roundw
          case rel => exact ⟨by first | rfl | trivial, .inr (.inl ⟨rfl, by first | rfl | trivial, by first | rfl | trivial⟩)⟩
          case measure => decide
    · cases p3 with
      | true =>
        go_wp2
        go_ret
        exact ⟨by rw [← HG.out]; rfl, by first | rfl | trivial⟩
      | false =>
        cases p4 with
        | true =>
          go_wp2
          go_ret
          exact ⟨by rw [← HG.out]; rfl, by first | rfl | trivial⟩
        | false =>
          go_wp2
          go_roundw
          case rel => exact ⟨by first | rfl | trivial, .inr (.inr ⟨rfl, by first | rfl | trivial, by first | rfl | trivial, by first | rfl | trivial, by first | rfl | trivial⟩)⟩
          case measure => decide
    · go_wp2
      go_ret
      exact ⟨by rw [← HG.out]; rfl, by first | rfl | trivial⟩
end Go.Proofs.Ytjmlekdgipinfaa
/- The document's fold: the inner product, whole; what shapes and products come to, by lengths. -/
namespace Go.Proofs.Ytjmlekdgipinfaa
open Go.RowKit Go.Shelf

set_option maxRecDepth 100000 in
set_option maxHeartbeats 1000000 in
theorem r16inner_any (f g : Int) (u v : Value) (A B : Ar) (w : World) (hA : Ara w u A) (hB : Ara w v B) (hl1 : A.e.length ≤ 1000000) (hl2 : B.e.length ≤ 1000000) (hI1 : ∀ x ∈ A.e, In x) (hI2 : ∀ x ∈ B.e, In x) : Calls Try.prog 38 #[.int .i64 f, .int .i64 g, u, v] w (GaveAE w (innA f g A B) (innE f g A B)) := by
  by_cases hE : isE f g A B = 0
  · rcases Nat.eq_zero_or_pos A.s.length with ha | ha
    · exact r16inner_a0 f g u v A B w hA hB hl1 hl2 hI1 hI2 hE ha
    · exact r16inner_a1 f g u v A B w hA hB hl1 hl2 hI1 hI2 hE ha
  · have _u := True.intro
    clear _u
    obtain ⟨vs, ve, rfl, hs, he⟩ := hA
    obtain ⟨us, ue, rfl, ht, hf⟩ := hB
    obtain ⟨sa, cs, rfl, _⟩ := hs.form
    obtain ⟨ea, ce, rfl, _⟩ := he.form
    obtain ⟨ta, ct, rfl, _⟩ := ht.form
    obtain ⟨fa, cf, rfl, _⟩ := hf.form
    have hK1 := (Chg.refl (fun _ => False) w).alloc (.cells #[.int .i64 A.k, .slice sa A.s.length cs, .slice ea A.e.length ce] 25)
    have hK2 := (Chg.refl (fun _ => False) (w.alloc (.cells #[.int .i64 A.k, .slice sa A.s.length cs, .slice ea A.e.length ce] 25))).alloc (.cells #[.int .i64 B.k, .slice ta B.s.length ct, .slice fa B.e.length cf] 25)
    have hK3 := (Chg.refl (fun _ => False) ((w.alloc (.cells #[.int .i64 A.k, .slice sa A.s.length cs, .slice ea A.e.length ce] 25)).alloc (.cells #[.int .i64 B.k, .slice ta B.s.length ct, .slice fa B.e.length cf] 25))).alloc (.cells #[.int .i64 0, .slice none 0 0, .slice none 0 0] 25)
    have hbb := (Bx1.new (A := B) 25 (ht.fr hK1) (hf.fr hK1)).fr hK3
    rw [World.size_alloc] at hbb
    have hb0 := Bx.new ((w.alloc (.cells #[.int .i64 A.k, .slice sa A.s.length cs, .slice ea A.e.length ce] 25)).alloc (.cells #[.int .i64 B.k, .slice ta B.s.length ct, .slice fa B.e.length cf] 25)) (.int .i64 0) (.slice none 0 0) (.slice none 0 0) 25
    rw [World.size_alloc, World.size_alloc] at hb0
    have HBA := Lib.hid ((Bx1.new (A := A) 25 hs he).fr (hK2.tr hK3))
    have HBB := Lib.hid hbb
    have HB0 := Lib.hid hb0
    have HC := Lib.hid ((hK1.tr hK2).tr hK3)
    clear hs he ht hf hK1 hK2 hK3 hbb hb0
    have a0 := HBA.out.a0
    have a1 := HBA.out.a1
    have a2 := HBA.out.a2
    have b0 := HBB.out.a0
    have b1 := HBB.out.a1
    have b2 := HBB.out.a2
    have his := r16innerS_any f g _ _ A B _ HBA.out.ara HBB.out.ara hl1 hl2
    unfold GaveIS at his
    obtain ⟨E, hEE⟩ : ∃ E, isE f g A B = E := ⟨_, rfl⟩
    have hie : innE f g A B = E := by unfold innE; rw [if_neg hE, hEE]
    rw [hEE] at hE his
    have HR := Lib.hid (show innE f g A B = E ∧ innA f g A B = noA from ⟨hie, by unfold innA; rw [if_neg (by rw [hie]; exact hE)]⟩)
    have hzn : (E != 0) = true := bne_t hE
    have HZ := Lib.hid hE
    clear hE hEE hie hI1 hI2 hl1 hl2
    go_enter Try.func38, Try.ntmps38
    go_wp2_with fail
    refine his.mono ?_
    clear his
    rintro e9 w1 ⟨vh, L', rfl, hC1, _, hno⟩
    obtain ⟨rfl, rfl⟩ := hno HZ.out
    obtain ⟨z0, z1, z2, f0, f1, f2⟩ := HB0.out.fr hC1
    obtain ⟨⟨g0, g1⟩, g2⟩ := set3_cells (.int .i64 0) (.slice none 0 0) (.slice none 0 0) z0 z1 z2
    have HC1 := Lib.hid (HC.out.tr hC1)
    clear hC1 a0 a1 a2 b0 b1 b2 hno
    go_wp2
    simp [bodyPost, results, Try.results38, go_sem, g0, g1, g2]
    rw [HR.out.1, HR.out.2]
    exact leaveNo (Nat.le_add_right _ 2) HC1.out
/-- A shape, or none: what is given is new memory. -/
def lsE (E : Int) (s : List Int) : List Int := if E = 0 then s else []
def lgE (E L : Int) : Int := if E = 0 then L else 0
def GvOS (w : World) (s : List Int) (E : Int) (e : Ending) (w' : World) : Prop := ∃ v, e = .returned (.tuple #[v, .int .i64 E]) ∧ Own w' w.heap.size 3 v s ∧ Chg (fun _ => False) w w'
def GvIS (w : World) (s : List Int) (L E : Int) (e : Ending) (w' : World) : Prop := ∃ v, e = .returned (.tuple #[v, .int .i64 L, .int .i64 E]) ∧ Own w' w.heap.size 3 v s ∧ Chg (fun _ => False) w w'
theorem os_of {w : World} {s : List Int} {E : Int} (e : Ending) (w' : World) (h : GaveOS w s E e w') : GvOS w (lsE E s) E e w' := by
  obtain ⟨v, he, hC, h0, h1⟩ := h
  refine ⟨v, he, ?_, hC⟩
  unfold lsE
  by_cases h : E = 0
  · rw [if_pos h]; exact h0 h
  · rw [if_neg h, h1 h]; exact Own.nil _ _ _
theorem is_of {w : World} {s : List Int} {L E : Int} (e : Ending) (w' : World) (h : GaveIS w s L E e w') : GvIS w (lsE E s) (lgE E L) E e w' := by
  obtain ⟨v, L', he, hC, h0, h1⟩ := h
  unfold lsE lgE
  by_cases h : E = 0
  · rw [if_pos h, if_pos h]
    obtain ⟨rfl, ho⟩ := h0 h
    exact ⟨v, he, ho, hC⟩
  · rw [if_neg h, if_neg h]
    obtain ⟨rfl, rfl⟩ := h1 h
    exact ⟨_, he, Own.nil _ _ _, hC⟩
theorem lsE_len {E : Int} {s : List Int} {n : Nat} (h : s.length ≤ n) : (lsE E s).length ≤ n := by
  unfold lsE
  split
  · exact h
  · simp
theorem out_len (f : Int) (A B : Ar) (h1 : A.e.length ≤ 100) (h2 : B.e.length ≤ 100) (h3 : A.s.length ≤ 100) (h4 : B.s.length ≤ 100) : (outA f A B).s.length ≤ 1000000 ∧ (outA f A B).e.length ≤ 1000000 := by
  have h5 : A.e.length * B.e.length ≤ 100 * 100 := Nat.mul_le_mul h1 h2
  unfold outA
  split
  · simp only [tabV_length, List.length_append]
    omega
  · simp [noA]
theorem inn_len (f g : Int) (A B : Ar) (h3 : A.s.length ≤ 100) (h4 : B.s.length ≤ 100) : (innA f g A B).s.length ≤ 1000000 ∧ (innA f g A B).e.length ≤ 1000000 := by
  unfold innA
  by_cases h : innE f g A B = 0
  · rw [if_pos h]
    have hi : isE f g A B = 0 := by
      unfold innE at h
      by_cases h0 : isE f g A B = 0
      · exact h0
      · rw [if_neg h0] at h; exact h
    have := (shB_iff.1 (is_zero hi).2.2.2).2.2
    simp only [tabV_length]
    unfold shpI at *
    simp only [List.length_append, List.length_dropLast, List.length_drop]
    unfold innN shpI
    omega
  · rw [if_neg h]
    simp [noA]
end Go.Proofs.Ytjmlekdgipinfaa
