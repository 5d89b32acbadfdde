/- The plain law of a stable sort by blocks that are merged in place. -/
import Derived.WalkKit
namespace Go.Proofs.Ytnjnajbdpaaikaa

/-- By the key, and where the keys are the same by the number itself. -/
def Lo (K : Int → Int) (x y : Int) : Prop := K x < K y ∨ (K x = K y ∧ x < y)
theorem Lo.trans {K : Int → Int} {x y z : Int} (h : Lo K x y) (g : Lo K y z) : Lo K x z := by
  unfold Lo at *; omega
theorem lo_not {K : Int → Int} {x y : Int} (h : x < y) (g : ¬ K y < K x) : Lo K x y := by unfold Lo; omega
theorem lo_yes {K : Int → Int} {x y : Int} (g : K y < K x) : Lo K y x := .inl g
theorem Lo.irrefl {K : Int → Int} {x : Int} (h : Lo K x x) : False := by unfold Lo at h; omega
theorem Lo.asymm {K : Int → Int} {x y : Int} (h : Lo K x y) (g : Lo K y x) : False := (h.trans g).irrefl
def Srt (K : Int → Int) (l : List Int) : Prop := l.Pairwise (Lo K)
def Ahead (u v : List Int) : Prop := ∀ x ∈ u, ∀ y ∈ v, x < y
theorem srt_nil (K : Int → Int) : Srt K [] := List.Pairwise.nil
theorem srt_one (K : Int → Int) (x : Int) : Srt K [x] := List.pairwise_singleton _ _
theorem srt_app {K : Int → Int} {u v : List Int} : Srt K (u ++ v) ↔ Srt K u ∧ Srt K v ∧ ∀ x ∈ u, ∀ y ∈ v, Lo K x y := List.pairwise_append
theorem all_last {K : Int → Int} {l : List Int} {x : Int} (h : Srt K l) (g : ∀ z, l[l.length - 1]? = some z → Lo K z x) : ∀ z ∈ l, Lo K z x := by
  intro z hz
  rcases List.eq_nil_or_concat l with rfl | ⟨t, e, rfl⟩
  · cases hz
  · rw [List.concat_eq_append] at hz h g
    have ge := g e (by simp)
    rcases List.mem_append.1 hz with h1 | h1
    · exact ((srt_app.1 h).2.2 z h1 e (by simp)).trans ge
    · rw [List.mem_singleton.1 h1]; exact ge
theorem all_head {K : Int → Int} {l : List Int} {x : Int} (h : Srt K l) (g : ∀ z, l[0]? = some z → Lo K x z) : ∀ z ∈ l, Lo K x z := by
  intro z hz
  cases l with
  | nil => cases hz
  | cons e t =>
    have ge := g e rfl
    rcases List.mem_cons.1 hz with h1 | h1
    · rw [h1]; exact ge
    · exact ge.trans ((List.pairwise_cons.1 h).1 z h1)
/-- One element put between two parts of a sorted list. -/
theorem srt_ins {K : Int → Int} {l r : List Int} {x : Int} (h : Srt K (l ++ r)) (g1 : ∀ z, l[l.length - 1]? = some z → Lo K z x) (g2 : ∀ z, r[0]? = some z → Lo K x z) : Srt K (l ++ x :: r) := by
  obtain ⟨h1, h2, h3⟩ := srt_app.1 h
  have a1 := all_last h1 g1
  have a2 := all_head h2 g2
  refine srt_app.2 ⟨h1, List.pairwise_cons.2 ⟨a2, h2⟩, fun y hy z hz => ?_⟩
  rcases List.mem_cons.1 hz with e | hz
  · rw [e]; exact a1 y hy
  · exact h3 y hy z hz
/-- The two halves that a symmetric merge parts into. -/
theorem sym_parts {K : Int → Int} {u1 u2 v1 v2 : List Int} (hu : Srt K (u1 ++ u2)) (hv : Srt K (v1 ++ v2)) (g1 : ∀ x y, u1[u1.length - 1]? = some x → v2[0]? = some y → Lo K x y) (g2 : ∀ x y, v1[v1.length - 1]? = some x → u2[0]? = some y → Lo K x y) :
    ∀ x ∈ u1 ++ v1, ∀ y ∈ u2 ++ v2, Lo K x y := by
  obtain ⟨hu1, hu2, hu3⟩ := srt_app.1 hu
  obtain ⟨hv1, hv2, hv3⟩ := srt_app.1 hv
  intro x hx y hy
  rcases List.mem_append.1 hx with hx | hx <;> rcases List.mem_append.1 hy with hy | hy
  · exact hu3 x hx y hy
  · exact all_last hu1 (x := y) (fun z hz => all_head hv2 (x := z) (fun t ht => g1 z t hz ht) y hy) x hx
  · exact all_last hv1 (x := y) (fun z hz => all_head hu2 (x := z) (fun t ht => g2 z t hz ht) y hy) x hx
  · exact hv3 x hx y hy
/-- A part of the places is sorted. -/
def OkS (K : Int → Int) (s : Nat) (x : List Int) : Prop := x.Perm ((List.range' s x.length).map fun (k : Nat) => (k : Int) + 1) ∧ Srt K x
theorem OkS.bd {K : Int → Int} {s : Nat} {x : List Int} (h : OkS K s x) : ∀ z ∈ x, (s : Int) < z ∧ z ≤ s + x.length := by
  intro z hz
  have := h.1.mem_iff.1 hz
  simp only [List.mem_map, List.mem_range'_1] at this
  obtain ⟨k, ⟨h1, h2⟩, rfl⟩ := this
  omega
theorem OkS.ahead {K : Int → Int} {s : Nat} {x y : List Int} (h : OkS K s x) (g : OkS K (s + x.length) y) : Ahead x y := by
  intro a ha b hb
  have h1 := h.bd a ha
  have h2 := g.bd b hb
  omega
theorem okS_app {K : Int → Int} {s : Nat} {x y z : List Int} (h : OkS K s x) (g : OkS K (s + x.length) y) (hp : z.Perm (x ++ y)) (hs : Srt K z) : OkS K s z := by
  refine ⟨hp.trans ?_, hs⟩
  rw [hp.length_eq, List.length_append]
  have e : List.range' s (x.length + y.length) = List.range' s x.length ++ List.range' (s + x.length) y.length := by
    rw [List.range'_append_1]
  rw [e, List.map_append]
  exact h.1.append g.1
theorem okS_nil (K : Int → Int) (s : Nat) : OkS K s [] := ⟨List.Perm.nil, srt_nil K⟩
/-- Places as they were made. -/
def iotaS (s n : Nat) : List Int := (List.range' s n).map fun (k : Nat) => (k : Int) + 1
theorem iotaS_length (s n : Nat) : (iotaS s n).length = n := by simp [iotaS]
theorem iotaS_app (s a b : Nat) : iotaS s (a + b) = iotaS s a ++ iotaS (s + a) b := by
  unfold iotaS; rw [← List.map_append, List.range'_append_1]
theorem iotaS_get (s n i : Nat) (h : i < n) : (iotaS s n)[i]? = some (((s + i : Nat) : Int) + 1) := by
  unfold iotaS
  rw [List.getElem?_map, List.getElem?_range' h]
  simp
theorem iotaS_lt (s n : Nat) : (iotaS s n).Pairwise (· < ·) := by
  unfold iotaS
  rw [List.pairwise_map]
  exact (List.pairwise_lt_range' (s := s) (n := n) (step := 1)).imp (fun h => by omega)
/-- Two sorted lists of the same elements are one. -/
theorem srt_eq {K : Int → Int} : ∀ {a b : List Int}, a.Perm b → Srt K a → Srt K b → a = b
  | [], b, h, _, _ => (List.nil_perm.1 h).symm
  | x :: a, [], h, _, _ => absurd h.length_eq (by simp)
  | x :: a, y :: b, h, ha, hb => by
    have e : x = y := by
      rcases List.mem_cons.1 (h.mem_iff.1 (List.mem_cons_self)) with e | hx
      · exact e
      · rcases List.mem_cons.1 (h.symm.mem_iff.1 (List.mem_cons_self)) with e | hy
        · exact e.symm
        · exact absurd ((List.pairwise_cons.1 ha).1 y hy) (fun g => g.asymm ((List.pairwise_cons.1 hb).1 x hx))
    subst e
    rw [srt_eq (List.Perm.cons_inv h) (List.pairwise_cons.1 ha).2 (List.pairwise_cons.1 hb).2]
end Go.Proofs.Ytnjnajbdpaaikaa
