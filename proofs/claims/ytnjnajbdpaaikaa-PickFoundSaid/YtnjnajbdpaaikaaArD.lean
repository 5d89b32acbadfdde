/- Arrays: answers in memory; twins; vectors. -/
import Derived.Test.YtnjnajbdpaaikaaArC
namespace Go.Proofs.Ytnjnajbdpaaikaa
open Go.RowKit

theorem set3_cells {w : World} {g : Nat} {z0 z1 z2 : Value} (a b c : Value) (h0 : w.cell? ⟨g, 0, none⟩ = some z0) (h1 : w.cell? ⟨g, 1, none⟩ = some z1) (h2 : w.cell? ⟨g, 2, none⟩ = some z2) :
    ((((w.setCell ⟨g, 0, none⟩ a).setCell ⟨g, 1, none⟩ b).setCell ⟨g, 2, none⟩ c).cell? ⟨g, 0, none⟩ = some a ∧ (((w.setCell ⟨g, 0, none⟩ a).setCell ⟨g, 1, none⟩ b).setCell ⟨g, 2, none⟩ c).cell? ⟨g, 1, none⟩ = some b) ∧
    (((w.setCell ⟨g, 0, none⟩ a).setCell ⟨g, 1, none⟩ b).setCell ⟨g, 2, none⟩ c).cell? ⟨g, 2, none⟩ = some c := by
  have e0 : (w.setCell ⟨g, 0, none⟩ a).cell? ⟨g, 0, none⟩ = some a := World.cell?_setCell_same' _ _ _ (by rw [h0]; rfl)
  have e1 : ((w.setCell ⟨g, 0, none⟩ a).setCell ⟨g, 1, none⟩ b).cell? ⟨g, 1, none⟩ = some b := World.cell?_setCell_same' _ _ _ (by rw [World.cell?_setCell_other _ _ _ _ (by simp), h1]; rfl)
  have e2 : (((w.setCell ⟨g, 0, none⟩ a).setCell ⟨g, 1, none⟩ b).setCell ⟨g, 2, none⟩ c).cell? ⟨g, 2, none⟩ = some c := World.cell?_setCell_same' _ _ _ (by rw [World.cell?_setCell_other _ _ _ _ (by simp), World.cell?_setCell_other _ _ _ _ (by simp), h2]; rfl)
  exact ⟨⟨by rw [World.cell?_setCell_other _ _ _ _ (by simp), World.cell?_setCell_other _ _ _ _ (by simp), e0], by rw [World.cell?_setCell_other _ _ _ _ (by simp), e1]⟩, e2⟩
/-- A box of three cells. -/
structure Bx (W : World) (b : Nat) (v0 v1 v2 : Value) : Prop where
  c0 : W.cell? ⟨b, 0, none⟩ = some v0
  c1 : W.cell? ⟨b, 1, none⟩ = some v1
  c2 : W.cell? ⟨b, 2, none⟩ = some v2
  f0 : W.frozen? ⟨b, 0, none⟩ = false
  f1 : W.frozen? ⟨b, 1, none⟩ = false
  f2 : W.frozen? ⟨b, 2, none⟩ = false
theorem Bx.new (W : World) (v0 v1 v2 : Value) (t : TypeId) : Bx (W.alloc (.cells #[v0, v1, v2] t)) W.heap.size v0 v1 v2 :=
  ⟨new_cell W _ _ rfl, new_cell W _ _ rfl, new_cell W _ _ rfl, new_frozen W _ _ _, new_frozen W _ _ _, new_frozen W _ _ _⟩
theorem Bx.chg {S : Nat → Prop} {W W' : World} {b : Nat} {v0 v1 v2 : Value} (h : Bx W b v0 v1 v2) (hC : Chg S W W') (hb : ¬ S b) : Bx W' b v0 v1 v2 :=
  ⟨hC.cell h.c0 hb, hC.cell h.c1 hb, hC.cell h.c2 hb, hC.frozen h.c0 h.f0 hb, hC.frozen h.c1 h.f1 hb, hC.frozen h.c2 h.f2 hb⟩
theorem Bx.fr {W W' : World} {b : Nat} {v0 v1 v2 : Value} (h : Bx W b v0 v1 v2) (hC : Chg (fun _ => False) W W') : Bx W' b v0 v1 v2 := h.chg hC id
theorem Bx.lt {W : World} {b : Nat} {v0 v1 v2 : Value} (h : Bx W b v0 v1 v2) : b < W.heap.size := cell_lt h.c0
theorem own_set {W : World} {base t : Nat} {v : Value} {xs : List Int} (h : Own W base t v xs) {a : Addr} (ha : a.block < base) (u : Value) : Own (W.setCell a u) base t v xs := ownsRow_setCell_below h ha u
theorem own_set3 {W : World} {base t b : Nat} {v : Value} {xs : List Int} (h : Own W base t v xs) (hb : b < base) (u0 u1 u2 : Value) : Own (((W.setCell ⟨b, 0, none⟩ u0).setCell ⟨b, 1, none⟩ u1).setCell ⟨b, 2, none⟩ u2) base t v xs :=
  own_set (own_set (own_set h (a := ⟨b, 0, none⟩) hb u0) (a := ⟨b, 1, none⟩) hb u1) (a := ⟨b, 2, none⟩) hb u2
theorem chg_set3 {w W : World} {b : Nat} (hC : Chg (fun _ => False) w W) (hb : w.heap.size ≤ b) (u0 u1 u2 : Value) : Chg (fun _ => False) w (((W.setCell ⟨b, 0, none⟩ u0).setCell ⟨b, 1, none⟩ u1).setCell ⟨b, 2, none⟩ u2) :=
  ((hC.setCell (p := ⟨b, 0, none⟩) (.inr hb) _).setCell (p := ⟨b, 1, none⟩) (.inr hb) _).setCell (p := ⟨b, 2, none⟩) (.inr hb) _
theorem ownA_set3 {w W : World} {b b1 b2 : Nat} {k : Int} {vs ve : Value} {s e : List Int} (h1 : Own W b1 3 vs s) (h2 : Own W b2 2 ve e) (hb : w.heap.size ≤ b) (hb1 : b < b1) (hb2 : b < b2) :
    OwnA (((W.setCell ⟨b, 0, none⟩ (.int .i64 k)).setCell ⟨b, 1, none⟩ vs).setCell ⟨b, 2, none⟩ ve) w.heap.size (.agg #[.int .i64 k, vs, ve]) ⟨k, s, e⟩ :=
  ⟨vs, ve, rfl, (own_set3 h1 hb1 _ _ _).mono (by omega), (own_set3 h2 hb2 _ _ _).mono (by omega)⟩
theorem leaveA {w W : World} {b b1 b2 : Nat} {k : Int} {vs ve : Value} {s e : List Int} (h1 : Own W b1 3 vs s) (h2 : Own W b2 2 ve e) (hb : w.heap.size ≤ b) (hb1 : b < b1) (hb2 : b < b2) (hC : Chg (fun _ => False) w W) :
    GaveA w ⟨k, s, e⟩ (.returned (.agg #[.int .i64 k, vs, ve])) (((W.setCell ⟨b, 0, none⟩ (.int .i64 k)).setCell ⟨b, 1, none⟩ vs).setCell ⟨b, 2, none⟩ ve) :=
  ⟨_, rfl, ownA_set3 h1 h2 hb hb1 hb2, chg_set3 hC hb _ _ _⟩
theorem leaveAE {w W : World} {b b1 b2 : Nat} {k n : Int} {vs ve : Value} {s e : List Int} (h1 : Own W b1 3 vs s) (h2 : Own W b2 2 ve e) (hb : w.heap.size ≤ b) (hb1 : b < b1) (hb2 : b < b2) (hC : Chg (fun _ => False) w W) :
    GaveAE w ⟨k, s, e⟩ n (.returned (.tuple #[.agg #[.int .i64 k, vs, ve], .int .i64 n])) (((W.setCell ⟨b, 0, none⟩ (.int .i64 k)).setCell ⟨b, 1, none⟩ vs).setCell ⟨b, 2, none⟩ ve) :=
  ⟨_, rfl, ownA_set3 h1 h2 hb hb1 hb2, chg_set3 hC hb _ _ _⟩
theorem leaveNo {w W : World} {b : Nat} {n : Int} (hb : w.heap.size ≤ b) (hC : Chg (fun _ => False) w W) :
    GaveAE w noA n (.returned (.tuple #[.agg #[.int .i64 0, .slice none 0 0, .slice none 0 0], .int .i64 n])) (((W.setCell ⟨b, 0, none⟩ (.int .i64 0)).setCell ⟨b, 1, none⟩ (.slice none 0 0)).setCell ⟨b, 2, none⟩ (.slice none 0 0)) :=
  leaveAE (b1 := b + 1) (b2 := b + 1) (Own.nil _ _ _) (Own.nil _ _ _) hb (Nat.lt_succ_self _) (Nat.lt_succ_self _) hC
theorem own_name {w : World} {base t : Nat} {v : Value} {xs : List Int} (h : Own w base t v xs) : ∃ ao c, v = .slice ao xs.length c := by
  obtain ⟨ao, c, h, _⟩ := owns_form h
  exact ⟨ao, c, h⟩
theorem own_lit (W : World) (t : TypeId) (xs : List Int) (n : Nat) (hn : xs.length = n) (cs : Array Value) (hc : cs = (xs.map I).toArray) (hm : xs.length ≤ 1000000) : Own (W.alloc (.cells cs t)) W.heap.size t (.slice (some ⟨W.heap.size, 0, none⟩) n n) xs := by
  subst hc hn
  refine ⟨by simp, .inr ⟨W.heap.size, xs.length, _, rfl, Nat.le_refl _, heap_alloc_new W _, Nat.le_refl _, by unfold maxLen; omega, by simp, by rw [Nat.mul_one, List.take_of_length_le (by simp)]⟩⟩
theorem ara_new {w : World} {base : Nat} {v : Value} {A : Ar} (h : OwnA w base v A) : ∃ sa cs ae ce, v = .agg #[.int .i64 A.k, .slice sa A.s.length cs, .slice ae A.e.length ce] ∧ Own w base 3 (.slice sa A.s.length cs) A.s ∧ Own w base 2 (.slice ae A.e.length ce) A.e := by
  obtain ⟨vs, ve, rfl, h1, h2⟩ := h
  obtain ⟨sa, cs, rfl⟩ := own_name h1
  obtain ⟨ae, ce, rfl⟩ := own_name h2
  exact ⟨sa, cs, ae, ce, rfl, h1, h2⟩
set_option maxHeartbeats 400000 in
theorem r11of_any (k : Int) (u v : Value) (s e : List Int) (w : World) (hs : Ls w u s) (he : Ls w v e) (hm : s.length ≤ 1000000) (hl : e.length ≤ 1000000) : Calls Try.prog 44 #[.int .i64 k, u, v] w (GaveA w ⟨k, s, e⟩) := by
  obtain ⟨sa, cs, rfl, _⟩ := hs.form
  obtain ⟨ae, ce, rfl, _⟩ := he.form
  have hC0 := (Chg.refl (fun _ => False) w).alloc (.cells #[.int .i64 0, .slice none 0 0, .slice none 0 0] 25)
  have hB0 := Bx.new w (.int .i64 0) (.slice none 0 0) (.slice none 0 0) 25
  have h1 := r11ints_any _ s _ (hs.fr hC0) hm
  have h2 := fun w' h => r11longs_any _ e w' (he.fr (hC0.tr h)) hl
  clear hs he
  go_enter Try.func44, Try.ntmps44
  go_wp2_with fail
  refine h1.mono ?_
  clear h1
  rintro e1 w1 ⟨v1, rfl, ho1, hC1⟩
  obtain ⟨a1, c1, rfl⟩ := own_name ho1
  have h2' := h2 _ hC1
  clear h2
  go_wp2_with fail
  refine h2'.mono ?_
  clear h2'
  rintro e2 w2 ⟨v2, rfl, ho2, hC2⟩
  obtain ⟨a2, c2, rfl⟩ := own_name ho2
  have hB2 := hB0.fr (hC1.tr hC2)
  obtain ⟨z0, z1, z2, x0, x1, x2⟩ := hB2
  obtain ⟨⟨g0, g1⟩, g2⟩ := set3_cells (.int .i64 k) (.slice a1 s.length c1) (.slice a2 e.length c2) z0 z1 z2
  go_wp2
  simp [bodyPost, results, Try.results44, go_sem, g0, g1, g2]
  refine leaveA (ho1.fr hC2) ho2 (Nat.le_refl _) (by simp) ?_ ((hC0.tr hC1).tr hC2)
  have := hC1.size
  simp at this
  omega
set_option maxHeartbeats 400000 in
theorem twin_any (v : Value) (A : Ar) (w : World) (hA : Ara w v A) (hm : A.s.length ≤ 1000000) (hl : A.e.length ≤ 1000000) : Calls Try.prog 15 #[v] w (GaveA w A) := by
  obtain ⟨k, s, e⟩ := A
  obtain ⟨vs, ve, hv, hs, he⟩ := hA
  simp only at hs he hv hl hm
  subst hv
  obtain ⟨sa, cs, rfl, _⟩ := hs.form
  obtain ⟨ae, ce, rfl, _⟩ := he.form
  have hC0 := ((Chg.refl (fun _ => False) w).alloc (.cells #[.int .i64 k, .slice sa s.length cs, .slice ae e.length ce] 25)).alloc (.cells #[.int .i64 0, .slice none 0 0, .slice none 0 0] 25)
  have hB0 := Bx.new (w.alloc (.cells #[.int .i64 k, .slice sa s.length cs, .slice ae e.length ce] 25)) (.int .i64 0) (.slice none 0 0) (.slice none 0 0) 25
  rw [World.size_alloc] at hB0
  have h1 := r11of_any k _ _ s e _ (hs.fr hC0) (he.fr hC0) hm hl
  clear hs he
  go_enter Try.func15, Try.ntmps15
  go_wp2_with fail
  refine h1.mono ?_
  clear h1
  rintro e1 w1 ⟨v1, rfl, ho1, hC1⟩
  obtain ⟨a1, c1, a2, c2, hv1, q1, q2⟩ := ara_new ho1
  simp only at hv1 q1 q2
  subst hv1
  have hB1 := hB0.fr hC1
  obtain ⟨z0, z1, z2, x0, x1, x2⟩ := hB1
  obtain ⟨⟨g0, g1⟩, g2⟩ := set3_cells (.int .i64 k) (.slice a1 s.length c1) (.slice a2 e.length c2) z0 z1 z2
  go_wp2
  simp [bodyPost, results, Try.results15, go_sem, g0, g1, g2]
  exact leaveA q1 q2 (Nat.le_succ _) (by simp) (by simp) (hC0.tr hC1)
set_option maxHeartbeats 400000 in
theorem avector_any (v : Value) (e : List Int) (w : World) (he : Ls w v e) (hl : e.length ≤ 1000000) : Calls Try.prog 20 #[v] w (GaveA w ⟨1, [(e.length : Int)], e⟩) := by
  obtain ⟨ae, ce, rfl, _⟩ := he.form
  have hC0 := (Chg.refl (fun _ => False) w).alloc (.cells #[.int .i64 0, .slice none 0 0, .slice none 0 0] 25)
  have hB0 := Bx.new w (.int .i64 0) (.slice none 0 0) (.slice none 0 0) 25
  have hlt : e.length < 9223372036854775807 := by omega
  have ho0 := own_lit (w.alloc (.cells #[.int .i64 0, .slice none 0 0, .slice none 0 0] 25)) 3 [(e.length : Int)] 1 rfl #[.int .i64 (e.length : Int)] rfl (by simp)
  have hC00 := hC0.alloc (.cells #[.int .i64 (e.length : Int)] 3)
  have hB00 := hB0.fr ((Chg.refl _ _).alloc (.cells #[.int .i64 (e.length : Int)] 3))
  have h1 := cloneL_any _ e _ (he.fr hC00) hl
  clear he hB0
  go_enter Try.func20, Try.ntmps20
  go_wp2_with fail
  refine h1.mono ?_
  clear h1
  rintro e1 w1 ⟨v1, rfl, ho1, hC1⟩
  obtain ⟨a1, c1, rfl⟩ := own_name ho1
  have hB1 := hB00.fr hC1
  obtain ⟨z0, z1, z2, x0, x1, x2⟩ := hB1
  obtain ⟨⟨g0, g1⟩, g2⟩ := set3_cells (.int .i64 1) (.slice (some ⟨w.heap.size + 1, 0, none⟩) 1 1) (.slice a1 e.length c1) z0 z1 z2
  go_wp2
  simp [bodyPost, results, Try.results20, go_sem, g0, g1, g2]
  exact leaveA (by have h := ho0.fr hC1; rw [World.size_alloc] at h; exact h) ho1 (Nat.le_refl _) (by simp) (by simp; omega) (hC00.tr hC1)
set_option maxHeartbeats 400000 in
theorem ascalar_any (n : Int) (w : World) : Calls Try.prog 22 #[.int .i64 n] w (GaveA w ⟨1, [], [n]⟩) := by
  have ho0 := own_lit (w.alloc (.cells #[.int .i64 1, .slice none 0 0, .slice (some ⟨w.heap.size + 1, 0, none⟩) 1 1] 25)) 2 [n] 1 rfl #[.int .i64 n] rfl (by simp)
  rw [World.size_alloc] at ho0
  go_enter Try.func22, Try.ntmps22
  go_wp2
  simp [bodyPost, results, Try.results22, go_sem]
  exact ⟨_, rfl, ⟨_, _, rfl, Own.nil _ _ _, ho0.mono (Nat.le_succ _)⟩, ((Chg.refl _ w).alloc _).alloc _⟩
def grtN (A : Ar) : Int := if 5000 < A.e.length ∨ 100 < A.s.length then 1 else 0
end Go.Proofs.Ytnjnajbdpaaikaa
