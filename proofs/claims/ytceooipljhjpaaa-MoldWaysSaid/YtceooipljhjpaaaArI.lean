/- Ways compared; what comes by them, or an error; arrays written over. -/
import Derived.Test.YtceooipljhjpaaaArH
namespace Go.Proofs.Ytceooipljhjpaaa
open Go.RowKit Go.Shelf

/-- The slice v of n numbers may be written. -/
def Wrt (w : World) (v : Value) (n : Nat) : Prop := ∀ j, j < n → ∃ b o c x, v = .slice (some ⟨b, o, none⟩) n c ∧ w.cell? ⟨b, o + j, none⟩ = some (.int .i64 x) ∧ w.frozen? ⟨b, o + j, none⟩ = false
theorem Wrt.of {w : World} {base t : Nat} {v : Value} {xs : List Int} (h : Own w base t v xs) : Wrt w v xs.length := by
  intro j hj
  obtain ⟨b, o, c, e, hc⟩ := h.ls.at hj
  refine ⟨b, o, c, _, e, hc, ?_⟩
  rcases h.2 with ⟨h0, h1⟩ | ⟨g, cap, cur, h0, _, hg, _⟩
  · omega
  · rw [h0] at e
    injection e with e _ _
    injection e with e
    injection e with e e2 _
    subst e e2
    unfold World.frozen?
    simp only
    rw [hg]
    simp
theorem Wrt.chg {S : Nat → Prop} {w w' : World} {v : Value} {n : Nat} (h : Wrt w v n) (hC : Chg S w w') (hn : ∀ k, v.ownBlock = some k → ¬ S k) : Wrt w' v n := by
  intro j hj
  obtain ⟨b, o, c, x, e, hc, hf⟩ := h j hj
  have hb : ¬ S b := hn b (by rw [e]; rfl)
  exact ⟨b, o, c, x, e, hC.cell hc hb, hC.frozen hc hf hb⟩
theorem Wrt.set {w : World} {v : Value} {n : Nat} (h : Wrt w v n) (p : Addr) (y : Int) : Wrt (w.setCell p (.int .i64 y)) v n := by
  intro j hj
  obtain ⟨b, o, c, x, e, hc, hf⟩ := h j hj
  by_cases hp : p = ⟨b, o + j, none⟩
  · subst hp
    exact ⟨b, o, c, y, e, World.cell?_setCell_same' _ _ _ (by rw [hc]; rfl), by rw [World.frozen?_setCell]; exact hf⟩
  · exact ⟨b, o, c, x, e, by rw [World.cell?_setCell_other _ _ _ _ hp]; exact hc, by rw [World.frozen?_setCell]; exact hf⟩
/-- Written over, and nothing else is. -/
def Spoilt (w : World) (vs ve : Value) (e : Ending) (w' : World) : Prop := (∃ v, e = .returned v) ∧ Chg (fun q => vs.ownBlock = some q ∨ ve.ownBlock = some q) w w'
/-- What comes of an array by a way. -/
def gonA (Y : Wy) (A : Ar) : Ar := if Y.n = 0 then ⟨A.k, Y.s, Y.g.map (pickG A.k A A)⟩ else noA
set_option maxRecDepth 100000 in
set_option maxHeartbeats 1000000 in
theorem r13gone_any (u v : Value) (s : List Int) (g : List (Int × Int)) (n : Int) (A : Ar) (w : World) (hG : GatAt w u ⟨s, g, n⟩) (hA : Ara w v A) (hgd : GoodG g A A) (hs1 : s.length ≤ 1000000) (hg1 : g.length ≤ 1000000) (ha1 : A.e.length ≤ 1000000) :
    Calls Try.prog 93 #[u, .int .i64 n, v] w (GaveAE w (gonA ⟨s, g, n⟩ A) n) := by
  obtain ⟨vs, vo, vp, rfl, hs, ho, hp⟩ := hG
  simp only at hs ho hp
  obtain ⟨k, t, e⟩ := A
  obtain ⟨vt, ve, hv, ht, he⟩ := hA
  simp only at hv ht he ha1
  subst hv
  obtain ⟨sa, cs, rfl, _⟩ := hs.form
  obtain ⟨oa, co, rfl, _⟩ := ho.form
  obtain ⟨ap, cp, rfl, _⟩ := hp.form
  obtain ⟨ta, ct, rfl, _⟩ := ht.form
  obtain ⟨ae, ce, rfl, _⟩ := he.form
  rw [List.length_map] at ho hp ⊢
  rw [List.length_map]
  have hC0 := (((Chg.refl (fun _ => False) w).alloc (.cells #[.slice sa s.length cs, .slice oa g.length co, .slice ap g.length cp] 39)).alloc (.cells #[.int .i64 k, .slice ta t.length ct, .slice ae e.length ce] 25)).alloc (.cells #[.int .i64 0, .slice none 0 0, .slice none 0 0] 25)
  have hB0 := Bx.new ((w.alloc (.cells #[.slice sa s.length cs, .slice oa g.length co, .slice ap g.length cp] 39)).alloc (.cells #[.int .i64 k, .slice ta t.length ct, .slice ae e.length ce] 25)) (.int .i64 0) (.slice none 0 0) (.slice none 0 0) 25
  simp only [World.size_alloc] at hB0
  by_cases h0 : n = 0
  · subst h0
    have hgo := r13go_any _ _ _ k s g 0 ⟨k, t, e⟩ ⟨k, t, e⟩ _ ⟨_, _, _, rfl, hs.fr hC0, ho.fr hC0, hp.fr hC0⟩ (Ara.mk (k := k) (ht.fr hC0) (he.fr hC0)) (Ara.mk (k := k) (ht.fr hC0) (he.fr hC0)) hgd hs1 hg1 ha1 ha1
    rw [show gonA ⟨s, g, 0⟩ ⟨k, t, e⟩ = ⟨k, s, g.map (pickG k ⟨k, t, e⟩ ⟨k, t, e⟩)⟩ from if_pos rfl]
    generalize g.map (pickG k ⟨k, t, e⟩ ⟨k, t, e⟩) = xs at *
    clear hs ho hp ht he hgd
    go_enter Try.func93, Try.ntmps93
    go_wp2_with fail
    refine hgo.mono ?_
    clear hgo
    rintro e9 w1 ⟨v1, rfl, ho1, hC1⟩
    obtain ⟨a1, c1, a2, c2, hv1, q1, q2⟩ := ara_new ho1
    simp only at hv1 q1 q2
    subst hv1
    obtain ⟨z0, z1, z2, x0, x1, x2⟩ := hB0.fr hC1
    obtain ⟨⟨g0, g1⟩, g2⟩ := set3_cells (.int .i64 k) (.slice a1 s.length c1) (.slice a2 xs.length c2) z0 z1 z2
    go_wp2
    simp [bodyPost, results, Try.results93, go_sem, g0, g1, g2]
    have hsz : w.heap.size + 1 + 1 < ((((w.alloc (.cells #[.slice sa s.length cs, .slice oa g.length co, .slice ap g.length cp] 39)).alloc (.cells #[.int .i64 k, .slice ta t.length ct, .slice ae e.length ce] 25)).alloc (.cells #[.int .i64 0, .slice none 0 0, .slice none 0 0] 25))).heap.size := by simp
    exact leaveAE q1 q2 (by omega) hsz hsz (hC0.tr hC1)
  · have b0 : (n != 0) = true := bne_iff_ne.2 h0
    rw [show gonA ⟨s, g, n⟩ ⟨k, t, e⟩ = noA from if_neg h0]
    clear hs ho hp ht he hgd h0 hB0
    go_enter Try.func93, Try.ntmps93
    go_wp2
    simp [bodyPost, results, Try.results93, go_sem]
    exact ⟨_, rfl, OwnA.no _ _, hC0⟩
end Go.Proofs.Ytceooipljhjpaaa
