/- mold: reshape. -/
import Derived.Test.YtceooipljhjpaaaMdH
import Derived.Test.YtceooipljhjpaaaMdI
namespace Go.Proofs.Ytceooipljhjpaaa
open Go.RowKit Go.Shelf

theorem rsW_ok {L : Ar} {s : List Int} (h : (rsW L s).n = 0) : shB (rsW L s).s = true ∧ ((rsW L s).g.length : Int) = prodL (rsW L s).s := by
  unfold rsW at h ⊢
  split at h
  · split at h
    · split at h
      · exact absurd h (by decide)
      · obtain ⟨h1, h2, h3⟩ := limW_ok h
        rename_i q1 q2 q3
        rw [if_pos q1, if_pos q2, if_neg q3]
        unfold rsG
        rw [h3]
        exact ⟨h1, h2⟩
    · rename_i q1 q2
      exact absurd h q2
  · exact absurd h (by decide)
set_option maxRecDepth 100000 in
set_option maxHeartbeats 1000000 in
theorem reshape_any (u v : Value) (L A : Ar) (w : World) (hL : Ara w u L) (hA : Ara w v A) (hle : L.e.length ≤ 1000000) (hle2 : A.e.length ≤ 1000000) : Calls Try.prog 33 #[u, v] w (GaveAE w (mgA (rsW L A.s) L A) (mgN (rsW L A.s) L A)) := by
  have hL' := hL
  have hA' := hA
  obtain ⟨vt, ve, rfl, ht, he⟩ := hL
  obtain ⟨vt2, ve2, rfl, ht2, he2⟩ := hA
  obtain ⟨ta, ct, rfl, _⟩ := ht.form
  obtain ⟨ae, ce, rfl, _⟩ := he.form
  obtain ⟨tb, cb, rfl, _⟩ := ht2.form
  obtain ⟨be, de, rfl, _⟩ := he2.form
  have hC0 := (((Chg.refl (fun _ => False) w).alloc (.cells #[.int .i64 L.k, .slice ta L.s.length ct, .slice ae L.e.length ce] 25)).alloc (.cells #[.int .i64 A.k, .slice tb A.s.length cb, .slice be A.e.length de] 25)).alloc (.cells #[.int .i64 0, .slice none 0 0, .slice none 0 0] 25)
  have hB0 := Bx.new ((w.alloc (.cells #[.int .i64 L.k, .slice ta L.s.length ct, .slice ae L.e.length ce] 25)).alloc (.cells #[.int .i64 A.k, .slice tb A.s.length cb, .slice be A.e.length de] 25)) (.int .i64 0) (.slice none 0 0) (.slice none 0 0) 25
  rw [World.size_alloc, World.size_alloc] at hB0
  have h1 := mgone_any 14 (fun _ _ => rfl) (rsW L A.s) _ _ L A _ (hL'.fr hC0) (hA'.fr hC0) hle hle2 (fun u' v' w' _ a b => reshway_any u' v' L A.s w' a b hle) (fun h => rsW_ok h)
  have HC := Lib.hid hC0
  generalize mgA (rsW L A.s) L A = AA at *
  generalize mgN (rsW L A.s) L A = NN at *
  clear hL' hA' ht he ht2 he2 hC0
  go_enter Try.func33, Try.ntmps33
  go_wp2_with fail
  refine h1.mono ?_
  clear h1
  rintro e9 w1 ⟨v1, rfl, ho1, hC1⟩
  obtain ⟨a5, c5, a6, c6, rfl, q1, q2⟩ := ara_new ho1
  obtain ⟨z0, z1, z2, f0, f1, f2⟩ := hB0.fr hC1
  obtain ⟨⟨g0, g1⟩, g2⟩ := set3_cells (.int .i64 AA.k) (.slice a5 AA.s.length c5) (.slice a6 AA.e.length c6) z0 z1 z2
  have HL := Lib.hid hB0.lt
  have HC1 := Lib.hid (HC.out.tr hC1)
  clear hC1 ho1 hB0
  go_wp2
  simp [bodyPost, results, Try.results33, go_sem, g0, g1, g2]
  show GaveAE w ⟨AA.k, AA.s, AA.e⟩ NN _ _
  exact leaveAE q1 q2 (by omega) HL.out HL.out HC1.out
end Go.Proofs.Ytceooipljhjpaaa
