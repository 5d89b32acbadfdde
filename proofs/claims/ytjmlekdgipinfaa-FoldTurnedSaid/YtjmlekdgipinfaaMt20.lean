/- turn: transpose's way. -/
import Derived.Test.YtjmlekdgipinfaaMt19
namespace Go.Proofs.Ytjmlekdgipinfaa
open Go.RowKit Go.Shelf

def revI (r j : Nat) : List Int := (List.range j).map (fun (i : Nat) => (r : Int) - 1 - (i : Int))
theorem revI_length (r j : Nat) : (revI r j).length = j := by simp [revI]
theorem revI_succ (r j : Nat) : revI r (j + 1) = revI r j ++ [(r : Int) - 1 - (j : Int)] := by simp [revI, List.range_succ]
def aboP (r : Nat) : List Nat := (List.range r).reverse
theorem aboP_perm (r : Nat) : (aboP r).Perm (List.range r) := List.reverse_perm _
theorem revI_full (r : Nat) : revI r r = (aboP r).map (fun (a : Nat) => (a : Int)) := by
  apply List.ext_getElem
  · simp [revI, aboP]
  · intro i h1 h2
    have hi : i < r := by simpa [revI] using h1
    simp [revI, aboP]
    omega
def traW (s : List Int) : Wy := ⟨outL s (aboP s.length), axG s (aboP s.length), 0⟩
theorem GaveW.wd {D : Nat → Prop} {w w' : World} {W : Wy} {e : Ending} (h : GaveW w W e w') : GaveWD D w W e w' := by
  obtain ⟨v, D', h1, h2, h3, h4⟩ := h
  exact ⟨v, D', h1, h2, fun k hk => (h3 k hk).imp (fun h => h.elim) id, h4⟩
set_option maxRecDepth 100000 in
set_option maxHeartbeats 2000000 in
theorem vtrans_any (v : Value) (s : List Int) (w : World) (hS : Ls w v s) (hlt : ∀ q, Blk v q → q < w.heap.size) (hsh : shB s = true) :
    Calls Try.prog 113 #[.agg #[v]] w (GaveWD (Blk v) w (traW s)) := by
  obtain ⟨i0, hi, hz0, hz1, hz2⟩ := info_parts info_int
  obtain ⟨ao, c, rfl, _⟩ := hS.form
  have hl4 := (shB_iff.1 hsh).1
  have hC0 := ((Chg.refl (fun _ => False) w).alloc (.cells #[.slice ao s.length c] 140)).alloc (.cells #[.slice none 0 0, .nilFunc] 133)
  obtain ⟨w0, hw0⟩ : ∃ w0, (w.alloc (.cells #[.slice ao s.length c] 140)).alloc (.cells #[.slice none 0 0, .nilFunc] 133) = w0 := ⟨_, rfl⟩
  have y0 := alloc_cell (new_cell w #[.slice ao s.length c] 140 (i := 0) rfl) (.cells #[.slice none 0 0, .nilFunc] 133)
  have z0 := new_cell (w.alloc (.cells #[.slice ao s.length c] 140)) #[.slice none 0 0, .nilFunc] 133 (i := 0) rfl
  have z1 := new_cell (w.alloc (.cells #[.slice ao s.length c] 140)) #[.slice none 0 0, .nilFunc] 133 (i := 1) rfl
  have f0 := new_frozen (w.alloc (.cells #[.slice ao s.length c] 140)) #[.slice none 0 0, .nilFunc] 133 0
  have f1 := new_frozen (w.alloc (.cells #[.slice ao s.length c] 140)) #[.slice none 0 0, .nilFunc] 133 1
  simp only [World.size_alloc] at z0 z1 f0 f1
  rw [hw0] at y0 z0 z1 f0 f1 hC0
  have hs0 : w0.heap.size = w.heap.size + 2 := by rw [← hw0]; simp
  have HW0 := Lib.hid hw0
  have HS := Lib.hid (hS.fr hC0)
  have HC0 := Lib.hid hC0
  have HSH := Lib.hid hsh
  have HVL := Lib.hid hlt
  have y00 : w.heap.size < w0.heap.size := by omega
  have y01 : w.heap.size + 1 < w0.heap.size := by omega
  have HS0 := Lib.hid hs0
  have hwl : IntKind.i64.wrap ((s.length : Int) - 1) = (s.length : Int) - 1 := IntWalk.i64_in _ (by omega)
  clear hS hC0 hw0 hsh hs0 hlt
  go_enter Try.func113, Try.ntmps113
  go_wp2
  rw [HW0.out]
  go_loopw [4, 9] (fun tv i wr => ∃ j : Nat, j ≤ s.length ∧ i = .int .i64 j ∧ Own wr w0.heap.size 3 tv (revI s.length j) ∧ Chg (fun _ => False) w0 wr) (fun _ i _ => s.length - (intOf i).toNat)
  case atStart => exact ⟨0, Nat.zero_le _, rfl, Own.nil _ _ _, Chg.refl _ _⟩
  case round =>
    obtain ⟨j, hj, rfl, hown, hC⟩ := hrel
    have yv := hC.cell y0 id
    have hm1 : w0.heap.size ≤ wr.heap.size := hC.size
    have hyv : w.heap.size < wr.heap.size := by omega
    by_cases hlt : j < s.length
    · obtain ⟨al, L, cl, rfl, hL⟩ := owns_name hown
      have hLL : L = j := by rw [hL.out, revI_length]
      have HLL := Lib.hid hLL
      have HO := Lib.hid hown
      have HC := Lib.hid hC
      have hlt' : (j : Int) < (s.length : Int) := by omega
      have hw2 : IntKind.i64.wrap ((s.length : Int) - 1 - (j : Int)) = (s.length : Int) - 1 - (j : Int) := IntWalk.i64_in _ (by omega)
      have hw3 : IntKind.i64.wrap ((j : Int) + 1) = (j : Int) + 1 := IntWalk.i64_in _ (by omega)
      have hLb : L ≤ 4 := by omega
      clear hown hC hLL
      go_wp2_with (refine wpList_append_own_any (by rfl) (.tmp 12) (.tmp 19) 22 (by rfl) w0.heap.size 3 i0 (.int .i64 0) 1 8 Try.underlying22 hi hz0 hz1 hz2 rfl (by decide) (.slice al L cl) (revI s.length j).length ((revI s.length j).map I) (by rfl) (World.ownsRow.alloc HO.out _) (some ⟨wr.heap.size, 0, none⟩) 1 1 [.int .i64 ((s.length : Int) - 1 - (j : Int))] (by rfl) rfl (fun j u hu => ⟨_, rfl, cell_one_new wr _ _ j u hu⟩) (by simp [Value.oneCell']) (by rw [revI_length]; unfold maxLen; omega) (by rw [revI_length]; omega) (by simp; omega) ?_; intro v2 w2 hown2 hg2 _ hO2; have hC2 : Chg (fun _ => False) w0 w2 := ((HC.out.alloc _).grown hg2 (fun k e => .inr (HO.out.lt k e).1)); have O2 := Lib.hid (own_snoc hown2 rfl); obtain ⟨al2, L2, cl2, rfl, hL2⟩ := owns_name O2.out)
      go_roundw
      case rel => exact ⟨j + 1, hlt, rfl, by rw [revI_succ]; exact O2.out, hC2⟩
      case measure => exact fit_meas j s.length hlt
    · obtain rfl : j = s.length := by omega
      rw [revI_full] at hown
      have hS9 := HS.out.fr hC
      have hby := by_any _ _ s (aboP s.length) wr hS9 hown.ls HSH.out (aboP_perm _) (fun q hq => by have := HVL.out q hq; omega) (fun q hq => (hown.lt q hq).2)
      replace f0 := hC.frozen z0 f0 id
      replace f1 := hC.frozen z1 f1 id
      replace z0 := hC.cell z0 id
      replace z1 := hC.cell z1 id
      obtain ⟨al, L, cl, rfl, hL⟩ := owns_name hown
      have HC := Lib.hid (HC0.out.tr hC)
      clear hown hC hS9
      go_wp2_with fail
      refine hby.mono ?_
      clear hby
      rintro e9 w3 ⟨v3, D3, rfl, hW3, hD3, hC3⟩
      replace f0 := hC3.frozen z0 f0 id
      replace f1 := hC3.frozen z1 f1 id
      replace z0 := hC3.cell z0 id
      replace z1 := hC3.cell z1 id
      obtain ⟨_, vs3, gf3, lb3, rfl, hs3, hd3, hf3⟩ := id (hW3.resolve_right (fun h => h.1 rfl))
      simp only at hs3
      obtain ⟨a3, c3, rfl, _⟩ := hs3.form
      rw [outL_length] at hW3
      obtain ⟨g0, g1⟩ := set2_cells (.slice a3 s.length c3) (.func (.func gf3) #[] lb3) z0 z1
      have HW := Lib.hid hW3
      have HD := Lib.hid hD3
      have HC3 := Lib.hid hC3
      rw [outL_length]
      clear hs3 hd3 hf3 hW3 hD3 hC3
      go_wp2
      simp [bodyPost, results, Try.results113, go_sem, g0, g1]
      refine way_store (x := w.heap.size) HW.out (fun k hk => ?_) (Nat.le_refl _) (Nat.le_succ _) (fun hk => ?_) (HC.out.tr HC3.out) rfl
      · rcases HD.out k hk with h | h
        · exact h.elim
        · exact .inr (by omega)
      · rcases HD.out _ hk with h | h
        · exact h
        · omega
set_option maxHeartbeats 1000000 in
theorem traway_any (v : Value) (s : List Int) (w : World) (hS : Ls w v s) (hl : s.length ≤ 1000000) : Calls Try.prog 80 #[v] w (GaveW w (toldW s (traW s))) := by
  obtain ⟨ao, c, rfl, _⟩ := hS.form
  have hC0 := (Chg.refl (fun _ => False) w).alloc (.cells #[.slice none 0 0, .nilFunc] 133)
  have z0 := new_cell w #[.slice none 0 0, .nilFunc] 133 (i := 0) rfl
  have z1 := new_cell w #[.slice none 0 0, .nilFunc] 133 (i := 1) rfl
  have f0 := new_frozen w #[.slice none 0 0, .nilFunc] 133 0
  have f1 := new_frozen w #[.slice none 0 0, .nilFunc] 133 1
  have htd := told_any _ s 113 (traW s) _ (hS.fr hC0) hl rfl (enters_of Try.func113 (by kernel_rfl) rfl) (fun h v' w' h1 h2 => vtrans_any v' s w' h1 h2 h)
  generalize toldW s (traW s) = W at *
  have HC := Lib.hid hC0
  clear hS
  go_enter Try.func80, Try.ntmps80
  go_wp2_with fail
  refine htd.mono ?_
  clear htd hC0
  rintro e9 w3 ⟨v3, D3, rfl, hW3, hD3, hC3⟩
  replace f0 := hC3.frozen z0 f0 id
  replace f1 := hC3.frozen z1 f1 id
  replace z0 := hC3.cell z0 id
  replace z1 := hC3.cell z1 id
  rcases way_form hW3 with ⟨a3, n3, c3, gf3, lb3, rfl⟩ | rfl
  · obtain ⟨g0, g1⟩ := set2_cells (.slice a3 n3 c3) (.func (.func gf3) #[] lb3) z0 z1
    have HW := Lib.hid hW3
    have HD := Lib.hid hD3
    have HC3 := Lib.hid hC3
    clear hW3 hD3 hC3
    go_wp2
    simp [bodyPost, results, Try.results80, go_sem, g0, g1]
    exact way_store (x := w.heap.size) HW.out (fun k hk => ((HD.out k hk).imp id (fun h => by simp at h; omega))) (Nat.le_refl _) (Nat.le_refl _) (fun hk => ((HD.out _ hk).elim id (fun h => by rw [World.size_alloc] at h; omega))) (HC.out.tr HC3.out) rfl
  · obtain ⟨g0, g1⟩ := set2_cells (.slice none 0 0) .nilFunc z0 z1
    have HW := Lib.hid hW3
    have HD := Lib.hid hD3
    have HC3 := Lib.hid hC3
    clear hW3 hD3 hC3
    go_wp2
    simp [bodyPost, results, Try.results80, go_sem, g0, g1]
    exact way_store (x := w.heap.size) HW.out (fun k hk => ((HD.out k hk).imp id (fun h => by simp at h; omega))) (Nat.le_refl _) (Nat.le_refl _) (fun hk => ((HD.out _ hk).elim id (fun h => by rw [World.size_alloc] at h; omega))) (HC.out.tr HC3.out) rfl
end Go.Proofs.Ytjmlekdgipinfaa
