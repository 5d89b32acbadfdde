/- turn: rotate and permute as methods of a list. -/
import Derived.Test.YtmmbdhfljabefaaTrI
import Derived.Test.YtmmbdhfljabefaaTrP
namespace Go.Proofs.Ytmmbdhfljabefaa
open Go.RowKit Go.Shelf

set_option maxHeartbeats 1000000 in
theorem lrot_any (u v : Value) (L : Ar) (s : List Int) (w : World) (hL : Ara w u L) (hS : Ls w v s) (hsl : s.length ≤ 1000000) (hle : L.e.length ≤ 1000000) (hls : L.s.length ≤ 1000000) : Calls Try.prog 72 #[u, v] w (GaveW w (rotW L s)) := by
  obtain ⟨k, t, e⟩ := L
  obtain ⟨vt, ve, hv, ht, he⟩ := hL
  simp only at hv ht he hle
  subst hv
  obtain ⟨ta, ct, rfl, _⟩ := ht.form
  obtain ⟨ae, ce, rfl, _⟩ := he.form
  obtain ⟨ao, c, rfl, _⟩ := hS.form
  have hC0 := ((Chg.refl (fun _ => False) w).alloc (.cells #[.int .i64 k, .slice ta t.length ct, .slice ae e.length ce] 96)).alloc (.cells #[.slice none 0 0, .nilFunc] 31)
  obtain ⟨y0, y1, y2⟩ := cell_two w (.int .i64 k) (.slice ta t.length ct) (.slice ae e.length ce) 96
  have z0 := new_cell (w.alloc (.cells #[.int .i64 k, .slice ta t.length ct, .slice ae e.length ce] 96)) #[.slice none 0 0, .nilFunc] 31 (i := 0) rfl
  have z1 := new_cell (w.alloc (.cells #[.int .i64 k, .slice ta t.length ct, .slice ae e.length ce] 96)) #[.slice none 0 0, .nilFunc] 31 (i := 1) rfl
  have f0 := new_frozen (w.alloc (.cells #[.int .i64 k, .slice ta t.length ct, .slice ae e.length ce] 96)) #[.slice none 0 0, .nilFunc] 31 0
  have f1 := new_frozen (w.alloc (.cells #[.int .i64 k, .slice ta t.length ct, .slice ae e.length ce] 96)) #[.slice none 0 0, .nilFunc] 31 1
  simp only [World.size_alloc] at z0 z1 f0 f1
  have htd := rotway_any _ _ ⟨k, t, e⟩ s _ (Ara.mk (k := k) (ht.fr hC0) (he.fr hC0)) (hS.fr hC0) hsl hle hls
  generalize rotW ⟨k, t, e⟩ s = W at *
  have HC := Lib.hid hC0
  clear hS ht he
  go_enter Try.func72, Try.ntmps72
  go_wp2_with fail
  refine htd.mono ?_
  clear htd hC0
  rintro e9 w3 ⟨v3, D3, rfl, hW3, hD3, hC3⟩
  replace f0 := hC3.frozen z0 f0 id
  replace f1 := hC3.frozen z1 f1 id
  replace z0 := hC3.cell z0 id
  replace z1 := hC3.cell z1 id
  rcases way_form hW3 with ⟨a3, n3, c3, gf3, lb3, rfl⟩ | rfl
  · obtain ⟨g0, g1⟩ := set2_cells (.slice a3 n3 c3) (.func (.func gf3) #[] lb3) z0 z1
    have HW := Lib.hid hW3
    have HD := Lib.hid hD3
    have HC3 := Lib.hid hC3
    clear hW3 hD3 hC3
    go_wp2
    simp [bodyPost, results, Try.results72, go_sem, g0, g1]
    exact way_store (x := w.heap.size) HW.out (fun k hk => (HD.out k hk).imp id (fun h => by simp at h; omega)) (Nat.le_refl _) (Nat.le_succ _) (fun hk => (HD.out _ hk).elim id (fun h => by simp at h; omega)) (HC.out.tr HC3.out) rfl
  · obtain ⟨g0, g1⟩ := set2_cells (.slice none 0 0) .nilFunc z0 z1
    have HW := Lib.hid hW3
    have HD := Lib.hid hD3
    have HC3 := Lib.hid hC3
    clear hW3 hD3 hC3
    go_wp2
    simp [bodyPost, results, Try.results72, go_sem, g0, g1]
    exact way_store (x := w.heap.size) HW.out (fun k hk => (HD.out k hk).imp id (fun h => by simp at h; omega)) (Nat.le_refl _) (Nat.le_succ _) (fun hk => (HD.out _ hk).elim id (fun h => by simp at h; omega)) (HC.out.tr HC3.out) rfl
set_option maxHeartbeats 1000000 in
theorem lperm_any (u v : Value) (L : Ar) (s : List Int) (w : World) (hL : Ara w u L) (hS : Ls w v s) (hsl : s.length ≤ 1000000) (hle : L.e.length ≤ 1000000) : Calls Try.prog 75 #[u, v] w (GaveW w (perW L s)) := by
  obtain ⟨k, t, e⟩ := L
  obtain ⟨vt, ve, hv, ht, he⟩ := hL
  simp only at hv ht he hle
  subst hv
  obtain ⟨ta, ct, rfl, _⟩ := ht.form
  obtain ⟨ae, ce, rfl, _⟩ := he.form
  obtain ⟨ao, c, rfl, _⟩ := hS.form
  have hC0 := ((Chg.refl (fun _ => False) w).alloc (.cells #[.int .i64 k, .slice ta t.length ct, .slice ae e.length ce] 96)).alloc (.cells #[.slice none 0 0, .nilFunc] 31)
  obtain ⟨y0, y1, y2⟩ := cell_two w (.int .i64 k) (.slice ta t.length ct) (.slice ae e.length ce) 96
  have z0 := new_cell (w.alloc (.cells #[.int .i64 k, .slice ta t.length ct, .slice ae e.length ce] 96)) #[.slice none 0 0, .nilFunc] 31 (i := 0) rfl
  have z1 := new_cell (w.alloc (.cells #[.int .i64 k, .slice ta t.length ct, .slice ae e.length ce] 96)) #[.slice none 0 0, .nilFunc] 31 (i := 1) rfl
  have f0 := new_frozen (w.alloc (.cells #[.int .i64 k, .slice ta t.length ct, .slice ae e.length ce] 96)) #[.slice none 0 0, .nilFunc] 31 0
  have f1 := new_frozen (w.alloc (.cells #[.int .i64 k, .slice ta t.length ct, .slice ae e.length ce] 96)) #[.slice none 0 0, .nilFunc] 31 1
  simp only [World.size_alloc] at z0 z1 f0 f1
  have htd := perway_any _ _ ⟨k, t, e⟩ s _ (Ara.mk (k := k) (ht.fr hC0) (he.fr hC0)) (hS.fr hC0) hsl hle
  generalize perW ⟨k, t, e⟩ s = W at *
  have HC := Lib.hid hC0
  clear hS ht he
  go_enter Try.func75, Try.ntmps75
  go_wp2_with fail
  refine htd.mono ?_
  clear htd hC0
  rintro e9 w3 ⟨v3, D3, rfl, hW3, hD3, hC3⟩
  replace f0 := hC3.frozen z0 f0 id
  replace f1 := hC3.frozen z1 f1 id
  replace z0 := hC3.cell z0 id
  replace z1 := hC3.cell z1 id
  rcases way_form hW3 with ⟨a3, n3, c3, gf3, lb3, rfl⟩ | rfl
  · obtain ⟨g0, g1⟩ := set2_cells (.slice a3 n3 c3) (.func (.func gf3) #[] lb3) z0 z1
    have HW := Lib.hid hW3
    have HD := Lib.hid hD3
    have HC3 := Lib.hid hC3
    clear hW3 hD3 hC3
    go_wp2
    simp [bodyPost, results, Try.results75, go_sem, g0, g1]
    exact way_store (x := w.heap.size) HW.out (fun k hk => (HD.out k hk).imp id (fun h => by simp at h; omega)) (Nat.le_refl _) (Nat.le_succ _) (fun hk => (HD.out _ hk).elim id (fun h => by simp at h; omega)) (HC.out.tr HC3.out) rfl
  · obtain ⟨g0, g1⟩ := set2_cells (.slice none 0 0) .nilFunc z0 z1
    have HW := Lib.hid hW3
    have HD := Lib.hid hD3
    have HC3 := Lib.hid hC3
    clear hW3 hD3 hC3
    go_wp2
    simp [bodyPost, results, Try.results75, go_sem, g0, g1]
    exact way_store (x := w.heap.size) HW.out (fun k hk => (HD.out k hk).imp id (fun h => by simp at h; omega)) (Nat.le_refl _) (Nat.le_succ _) (fun hk => (HD.out _ hk).elim id (fun h => by simp at h; omega)) (HC.out.tr HC3.out) rfl
end Go.Proofs.Ytmmbdhfljabefaa
