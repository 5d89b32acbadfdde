/- Payloads in new memory. -/
import Derived.Test.YtpiboaoifcajdaaNtM
namespace Go.Proofs.Ytpiboaoifcajdaa
open Go.RowKit Go.Shelf
attribute [local go_sem] Oper.semAt_some

theorem info_bytes : (Try.prog.info? 24).map (fun i => (i.zero, i.size, i.bytes)) = some (some (.slice none 0 0), 1, 24) := by kernel_rfl
theorem und_pays : Try.prog.underlying 36 = some (.slice 24) := by kernel_rfl
/-- Payloads, each of its own. -/
def RowP (W : World) (base : Nat) (v : Value) (ps : List (List UInt8)) : Prop :=
  ∃ vs, W.ownsRow base 24 1 v ps.length vs ∧ ∀ (j : Nat) (u : Value) (xs : List UInt8), vs[j]? = some u → ps[j]? = some xs → W.ownsRow base 5 1 u xs.length (xs.map B) ∧ ∀ g, u.ownBlock = some g → ¬ v.ownBlock = some g
theorem RowP.nil (W : World) (base : Nat) : RowP W base (.slice none 0 0) [] := ⟨[], World.ownsRow_nil _ _ _ _, fun j u xs h => by simp at h⟩
theorem RowP.chg {S : Nat → Prop} {W W' : World} {base : Nat} {v : Value} {ps : List (List UInt8)} (h : RowP W base v ps) (hC : Chg S W W') (hS : ∀ q, base ≤ q → ¬ S q) : RowP W' base v ps := by
  obtain ⟨vs, h1, h2⟩ := h
  exact ⟨vs, hC.owns h1 (fun k e => hS k (h1.lt k e).1), fun j u xs hu hx => ⟨hC.owns (h2 j u xs hu hx).1 (fun k e => hS k ((h2 j u xs hu hx).1.lt k e).1), (h2 j u xs hu hx).2⟩⟩
theorem RowP.pay {W : World} {base : Nat} {v : Value} {ps : List (List UInt8)} (h : RowP W base v ps) : Pay W v ps := by
  obtain ⟨vs, h1, h2⟩ := h
  exact ⟨vs, Sl.of_owns h1, by simpa using h1.1, fun j u xs hu hx => Sl.of_owns (h2 j u xs hu hx).1⟩
theorem owns_base {W : World} {b1 b2 : Nat} {e : TypeId} {sz n : Nat} {v : Value} {xs : List Value} (h : W.ownsRow b2 e sz v n xs) (hb : b1 ≤ b2) : W.ownsRow b1 e sz v n xs :=
  ⟨h.1, h.2.imp id fun ⟨g, cap, cur, hv, hg, r⟩ => ⟨g, cap, cur, hv, Nat.le_trans hb hg, r⟩⟩
theorem RowP.step {W W1 W2 : World} {base : Nat} {v v2 u : Value} {ps : List (List UInt8)} {xs : List UInt8} {vs : List Value} {o : Obj}
    (h1 : W.ownsRow base 24 1 v ps.length vs) (h2 : ∀ (j : Nat) (u : Value) (xs : List UInt8), vs[j]? = some u → ps[j]? = some xs → W.ownsRow base 5 1 u xs.length (xs.map B) ∧ ∀ g, u.ownBlock = some g → ¬ v.ownBlock = some g)
    (hC : Chg (fun _ => False) W W1) (hb : base ≤ W.heap.size) (hu : W1.ownsRow W.heap.size 5 1 u xs.length (xs.map B)) (hown : W2.ownsRow base 24 1 v2 (ps.length + 1) (vs ++ [u])) (hg : (W1.alloc o).grownBy W2 v.ownBlock)
    (hO : ∀ k, v2.ownBlock = some k → v.ownBlock = some k ∨ (W1.alloc o).heap.size ≤ k) : RowP W2 base v2 (ps ++ [xs]) := by
  have hl : vs.length = ps.length := by simpa using h1.1
  have hC2 : Chg (fun q => v.ownBlock = some q) W1 W2 := ((Chg.refl _ W1).alloc o).grown hg (fun k e => .inl e)
  have hs := hC.size
  refine ⟨vs ++ [u], by rw [List.length_append]; exact hown, fun j u' ys hu' hy => ?_⟩
  have key (B0 : Nat) (z : Value) (zs : List UInt8) (hz : W1.ownsRow B0 5 1 z zs.length (zs.map B)) (hB0 : base ≤ B0) (hne : ∀ g, z.ownBlock = some g → ¬ v.ownBlock = some g) : W2.ownsRow base 5 1 z zs.length (zs.map B) ∧ ∀ g, z.ownBlock = some g → ¬ v2.ownBlock = some g := by
    refine ⟨owns_base (hC2.owns hz hne) hB0, fun g hzg hv => ?_⟩
    rcases hO g hv with h | h
    · exact hne g hzg h
    · have := (hz.lt g hzg).2
      simp at h
      omega
  by_cases hj : j < vs.length
  · rw [List.getElem?_append_left hj] at hu'
    rw [List.getElem?_append_left (by omega)] at hy
    obtain ⟨k1, k2⟩ := h2 j u' ys hu' hy
    exact key base u' ys (hC.owns k1 (fun _ _ => id)) (Nat.le_refl _) k2
  · have e1 := (List.getElem?_eq_some_iff.1 hu').1
    rw [List.length_append, List.length_singleton] at e1
    rw [List.getElem?_append_right (by omega), show j - vs.length = 0 by omega] at hu'
    rw [List.getElem?_append_right (by omega), show j - ps.length = 0 by omega] at hy
    simp at hu' hy
    subst hu' hy
    exact key _ _ _ hu hb (fun g hzg hv => by have := (hu.lt g hzg).1; have := (h1.lt g hv).2; omega)
def encN (x : Nt) : List UInt8 := encL x.k x.a x.b x.n
/-- What answers payloads. -/
def GaveP (w : World) (ps : List (List UInt8)) (e : Ending) (w' : World) : Prop := ∃ v, e = .returned v ∧ RowP w' w.heap.size v ps ∧ Chg (fun _ => False) w w'
set_option maxRecDepth 100000 in
set_option maxHeartbeats 1000000 in
theorem bytes9_any (v : Value) (l : List Nt) (w : World) (hS : Nts w v l) (hok : ∀ x ∈ l, x.ok) (hl : l.length ≤ 1000) : Calls Try.prog 17 #[v] w (GaveP w (l.map encN)) := by
  obtain ⟨i0, hi, hz0, hz1, hz2⟩ := info_parts info_bytes
  obtain ⟨ao, c, rfl, hn⟩ := hS.form
  go_enter Try.func17, Try.ntmps17
  go_wp2
  go_loopw [3, 9] (fun u i wr => ∃ k : Nat, k ≤ l.length ∧ i = .int .i64 k ∧ RowP wr w.heap.size u ((l.map encN).take k) ∧ Chg (fun _ => False) w wr) (fun _ i _ => l.length - (intOf i).toNat)
  case atStart => exact ⟨0, Nat.zero_le _, rfl, RowP.nil _ _, Chg.refl _ _⟩
  case round =>
    obtain ⟨k, hk, rfl, ⟨vs, hR1, hR2⟩, hC⟩ := hrel
    by_cases hlt : k < l.length
    · have hlt' : (k : Int) < (l.length : Int) := by omega
      have hkw : IntKind.i64.wrap ((k : Int) + 1) = (k : Int) + 1 := IntWalk.i64_in _ (by omega)
      obtain ⟨b, o, c', e1, hx⟩ := (hS.fr hC).cells k hlt
      injection e1 with e1 e2 e3
      clear e2 e3
      subst e1
      have henc := fun w' => encode_any l[k].k l[k].a l[k].b l[k].n (hok _ (List.getElem_mem hlt)).2.2.2.2 w'
      obtain ⟨x, hxl⟩ : ∃ x, l[k] = x := ⟨_, rfl⟩
      rw [hxl] at hx henc
      obtain ⟨kk, a, b', z⟩ := x
      have x0 := hx.c0
      have x1 := hx.c1
      have x2 := hx.c2
      have x3 := hx.c3
      simp only at x0 x1 x2 x3 henc
      unfold noteV at henc
      have HL := Lib.hid hxl
      have HR := Lib.hid hR2
      have hlen : ((l.map encN).take k).length = k := by rw [List.length_take, List.length_map]; omega
      rw [hlen] at hR1
      obtain ⟨ao1, L1, c1, rfl, hL1⟩ := owns_name hR1
      clear hx hR2 hxl
      go_wp2_with fail
      refine (henc _).mono ?_
      clear henc
      rintro e w1 ⟨v1, rfl, ho1, hC1⟩
      obtain ⟨ao2, L2, c2, rfl, hL2⟩ := owns_name ho1
      go_wp2_with (refine wpList_append_own_any rfl (.tmp 20) (.tmp 22) 36 rfl w.heap.size 24 i0 (.slice none 0 0) 1 24 und_pays hi hz0 hz1 hz2 rfl (by decide) _ _ _ rfl ((hC1.owns hR1 (fun _ _ => id)).alloc _) (some ⟨w1.heap.size, 0, none⟩) 1 1 [.slice ao2 L2 c2] rfl rfl (fun j u hu => ⟨_, rfl, cell_one_new w1 _ _ j u hu⟩) (by simp [Value.oneCell']) (by unfold maxLen; omega) (by omega) (by have := (hC.tr hC1).size; simp; omega) ?_; intro v2 w2 hown2 hg2 _ hO2)
      have hst := RowP.step (by rw [hlen]; exact hR1) HR.out hC1 hC.size ho1 (by rw [hlen]; exact hown2) hg2 hO2
      have hcut : (l.map encN).take (k + 1) = (l.map encN).take k ++ [encL kk a b' z] := by
        rw [List.take_add_one, List.getElem?_map, List.getElem?_eq_getElem hlt, HL.out]
        rfl
      refine ⟨⟨k + 1, hlt, congrArg _ (by omega), ?_, ?_⟩, fit_meas k l.length hlt⟩
      · rw [hcut]
        exact hst
      · exact ((hC.tr hC1).alloc _).grown hg2 (fun q e => .inr (hR1.lt q e).1)
    · obtain rfl : l.length = k := by omega
      rw [List.take_of_length_le (by simp)] at hR1 hR2
      go_wp2
      go_ret
      exact ⟨_, rfl, ⟨vs, hR1, hR2⟩, hC⟩
end Go.Proofs.Ytpiboaoifcajdaa
