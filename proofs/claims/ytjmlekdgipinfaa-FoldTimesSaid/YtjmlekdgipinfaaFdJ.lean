/- fold: the chapter's first examples, alive. -/
import Derived.Test.YtjmlekdgipinfaaFdI
namespace Go.Proofs.Ytjmlekdgipinfaa
open Go.RowKit Go.Shelf

theorem row_lit (W : World) (f want : Int) (xs : List Int) (n : Nat) (hn : xs.length = n) (cs : Array Value) (hc : cs = (xs.map I).toArray) (hm : xs.length ≤ 1000000) (hI : ∀ x ∈ xs, In x) (h : rwP f xs = (want, 0)) : Calls Try.prog 43 #[.int .i64 f, .int .i64 want, .slice (some ⟨W.heap.size, 0, none⟩) n n] (W.alloc (.cells cs 2)) (Tru16 (W.alloc (.cells cs 2))) :=
  row16_any f want _ xs _ (own_lit W 2 xs n hn cs hc hm).ls hm hI h
theorem row_litD (W : World) (f want : Int) (xs : List Int) (n : Nat) (hn : xs.length = n) (cs : Array Value) (hc : cs = (xs.map I).toArray) (hm : xs.length ≤ 1000000) (hI : ∀ x ∈ xs, In x) (h : rwP f xs = (want, 0)) : Calls Try.prog 43 #[.int .i64 f, .int .i64 want, .slice (some ⟨W.heap.size, 0, none⟩) n n] ((W.alloc (.cells cs 2)).drew) (Tru16 ((W.alloc (.cells cs 2)).drew)) :=
  row16_any f want _ xs _ ((own_lit W 2 xs n hn cs hc hm).ls.fr ((Chg.refl _ _).drew)) hm hI h
set_option maxRecDepth 100000 in
set_option maxHeartbeats 2000000 in
theorem alive_any (w : World) : Calls Try.prog 11 #[] w (Tru16 w) := by
  have i1 : ∀ x ∈ [-1, 1, 9223372036854775807], In x := In_all (by decide)
  have i2 : ∀ x ∈ [1, 2, 3], In x := In_all (by decide)
  have i3 : ∀ x ∈ [9223372036854775807, 1, -1], In x := In_all (by decide)
  have h0 := row_any 1 _ [-1, 1, 9223372036854775807] _ (own_lit w 2 [-1, 1, 9223372036854775807] 3 rfl #[.int .i64 (-1), .int .i64 1, .int .i64 9223372036854775807] rfl (by decide)).ls (by decide) i1
  rw [alive_a] at h0
  have hC0 := (Chg.refl (fun _ => False) w).alloc (.cells #[.int .i64 (-1), .int .i64 1, .int .i64 9223372036854775807] 2)
  have HI2 := Lib.hid i2
  have HI3 := Lib.hid i3
  clear i1 i2 i3
  go_enter Try.func11, Try.ntmps11
  go_wp2_with fail
  refine h0.mono ?_
  clear h0
  rintro e9 w1 ⟨rfl, hC1⟩
  have h1 := vec_lit w1 [1, 2, 3] 3 rfl #[.int .i64 1, .int .i64 2, .int .i64 3] rfl (by decide)
  replace hC0 := (hC0.tr hC1).alloc (.cells #[.int .i64 1, .int .i64 2, .int .i64 3] 2)
  clear hC1
  go_wp2_with fail
  refine h1.mono ?_
  clear h1
  rintro e9 w2 ⟨v2, rfl, ho2, hC2⟩
  have h2 := scan_any 2 _ ⟨1, [3], [1, 2, 3]⟩ _ ho2.ara (by decide) HI2.out
  rw [alive_b.1, alive_b.2] at h2
  obtain ⟨a1, c1, a2, c2, rfl, _, _⟩ := ara_new ho2
  replace hC0 := hC0.tr hC2
  clear hC2 ho2
  go_wp2_with fail
  refine h2.mono ?_
  clear h2
  rintro e9 w3 ⟨v3, rfl, ho3, hC3⟩
  obtain ⟨a3, c3, a4, c4, rfl, _, _⟩ := ara_new ho3
  simp only [List.length_cons, List.length_nil, Nat.reduceAdd] at ho3 ⊢
  have hb := BoxA.new (A := ⟨1, [3], [1, -1, 2]⟩) 25 ho3.ara
  replace hC0 := hC0.tr (hC3.alloc (.cells #[.int .i64 1, .slice a3 1 c3, .slice a4 3 c4] 25))
  clear hC3 ho3
  obtain ⟨x1, hx1⟩ : ∃ x1, w3.heap.size = x1 := ⟨_, rfl⟩
  rw [hx1] at hb
  go_wp2_with fail
  clear hx1
  generalize w3.alloc (.cells #[.int .i64 1, .slice a3 1 c3, .slice a4 3 c4] 25) = w9 at *
  obtain ⟨sa, cs, sb, cb, ⟨y0, y1, y2⟩, hb⟩ := hb
  simp only [List.length_cons, List.length_nil, Nat.reduceAdd] at y0 y1 y2 hb
  have KP := Lib.hid (show ∀ w', Chg (fun _ => False) w9 w' → (Chg (fun _ => False) w9 w' ∧ w'.cell? ⟨x1, 0, none⟩ = some (.int .i64 1) ∧ w'.cell? ⟨x1, 1, none⟩ = some (.slice sa 1 cs) ∧ w'.cell? ⟨x1, 2, none⟩ = some (.slice sb 3 cb)) from fun w' h => ⟨h, h.cell y0 id, h.cell y1 id, h.cell y2 id⟩)
  have H1 := Lib.hid (show ∀ w' v, Chg (fun _ => False) w9 w' → Ara w' v ⟨1, [3], [1, -1, 2]⟩ → Calls Try.prog 39 #[.agg #[.int .i64 1, .slice sa 1 cs, .slice sb 3 cb], .int .i64 0, v] w' (GaveBo w' true) from fun w' v h hv => by have h2 := is_any _ _ ⟨1, [3], [1, -1, 2]⟩ ⟨1, [3], [1, -1, 2]⟩ 0 w' (hb.fr h) hv (by simp) (by simp); rw [isB_iff.2 ⟨rfl, rfl⟩] at h2; exact h2)
  have HV1 := Lib.hid (fun W => vec_litD W [1, -1, 2] 3 rfl #[.int .i64 1, .int .i64 (-1), .int .i64 2] rfl (by decide))
  have HV2 := Lib.hid (fun W => vec_lit W [1, -1, 2] 3 rfl #[.int .i64 1, .int .i64 (-1), .int .i64 2] rfl (by decide))
  have HR1 := Lib.hid (fun W => row_litD W 2 2 [1, 2, 3] 3 rfl #[.int .i64 1, .int .i64 2, .int .i64 3] rfl (by decide) HI2.out alive_c)
  have HR2 := Lib.hid (fun W => row_litD W 1 9223372036854775807 [9223372036854775807, 1, -1] 3 rfl #[.int .i64 9223372036854775807, .int .i64 1, .int .i64 (-1)] rfl (by decide) HI3.out alive_d)
  have HR3 := Lib.hid (fun W => row_lit W 2 2 [1, 2, 3] 3 rfl #[.int .i64 1, .int .i64 2, .int .i64 3] rfl (by decide) HI2.out alive_c)
  have HR4 := Lib.hid (fun W => row_lit W 1 9223372036854775807 [9223372036854775807, 1, -1] 3 rfl #[.int .i64 9223372036854775807, .int .i64 1, .int .i64 (-1)] rfl (by decide) HI3.out alive_d)
  have HC := Lib.hid hC0
  clear hC0 y0 y1 y2 hb
  go_region_held3 (fun w' => (Chg (fun _ => False) w9 w' ∧ w'.cell? ⟨x1, 0, none⟩ = some (.int .i64 1) ∧ w'.cell? ⟨x1, 1, none⟩ = some (.slice sa 1 cs) ∧ w'.cell? ⟨x1, 2, none⟩ = some (.slice sb 3 cb))) ((refine KP.out _ ?_; repeat (first | (with_reducible exact Chg.refl _ _) | (with_reducible assumption) | (with_reducible refine chg_drew' ?_) | (with_reducible refine chg_alloc' ?_) | (with_reducible refine Chg.tr ?_ hq4) | (with_reducible refine Chg.tr ?_ hq3) | (with_reducible refine Chg.tr ?_ hq2) | (with_reducible refine Chg.tr ?_ hq1)))) (first
      | (go_at_call 43
         (first | (with_reducible refine (HR1.out _).mono ?_) | (with_reducible refine (HR3.out _).mono ?_))
         rintro e9 q1 ⟨rfl, hq1⟩)
      | (go_at_call 43
         (first | (with_reducible refine (HR2.out _).mono ?_) | (with_reducible refine (HR4.out _).mono ?_))
         rintro e9 q2 ⟨rfl, hq2⟩)
      | (go_at_call 26
         (first | (with_reducible refine (HV1.out _).mono ?_) | (with_reducible refine (HV2.out _).mono ?_))
         rintro e9 q3 ⟨u3, rfl, hu3, hq3⟩
         have hu3a := Lib.hid hu3.ara)
      | (go_at_call 39
         with_reducible refine (H1.out _ _ ?_ ?_).mono ?_
         · repeat (first | (with_reducible exact Chg.refl _ _) | (with_reducible assumption) | (with_reducible refine chg_drew' ?_) | (with_reducible refine chg_alloc' ?_) | (with_reducible refine Chg.tr ?_ hq3) | (with_reducible refine Chg.tr ?_ hq2) | (with_reducible refine Chg.tr ?_ hq1))
         · first | exact hu3a.out | exact hu3a.out.fr ((Chg.refl _ _).drew)
         rintro e9 q4 ⟨rfl, hq4⟩))
  all_goals
    rename_i hHd
    go_wp2
    go_ret
    exact ⟨rfl, HC.out.tr hHd.1⟩
end Go.Proofs.Ytjmlekdgipinfaa
