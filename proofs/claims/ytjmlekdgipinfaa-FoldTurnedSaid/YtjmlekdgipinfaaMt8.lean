/- Ways compared; what comes by them, or an error; arrays written over. -/
import Derived.Test.YtjmlekdgipinfaaMt7
namespace Go.Proofs.Ytjmlekdgipinfaa
open Go.RowKit Go.Shelf

/-- The slice v of n numbers may be written. -/
def Wrt (w : World) (v : Value) (n : Nat) : Prop := ∀ j, j < n → ∃ b o c x, v = .slice (some ⟨b, o, none⟩) n c ∧ w.cell? ⟨b, o + j, none⟩ = some (.int .i64 x) ∧ w.frozen? ⟨b, o + j, none⟩ = false
theorem Wrt.of {w : World} {base t : Nat} {v : Value} {xs : List Int} (h : Own w base t v xs) : Wrt w v xs.length := by
  intro j hj
  obtain ⟨b, o, c, e, hc⟩ := h.ls.at hj
  refine ⟨b, o, c, _, e, hc, ?_⟩
  rcases h.2 with ⟨h0, h1⟩ | ⟨g, cap, cur, h0, _, hg, _⟩
  · omega
  · rw [h0] at e
    injection e with e _ _
    injection e with e
    injection e with e e2 _
    subst e e2
    unfold World.frozen?
    simp only
    rw [hg]
    simp
theorem Wrt.chg {S : Nat → Prop} {w w' : World} {v : Value} {n : Nat} (h : Wrt w v n) (hC : Chg S w w') (hn : ∀ k, v.ownBlock = some k → ¬ S k) : Wrt w' v n := by
  intro j hj
  obtain ⟨b, o, c, x, e, hc, hf⟩ := h j hj
  have hb : ¬ S b := hn b (by rw [e]; rfl)
  exact ⟨b, o, c, x, e, hC.cell hc hb, hC.frozen hc hf hb⟩
theorem Wrt.set {w : World} {v : Value} {n : Nat} (h : Wrt w v n) (p : Addr) (y : Int) : Wrt (w.setCell p (.int .i64 y)) v n := by
  intro j hj
  obtain ⟨b, o, c, x, e, hc, hf⟩ := h j hj
  by_cases hp : p = ⟨b, o + j, none⟩
  · subst hp
    exact ⟨b, o, c, y, e, World.cell?_setCell_same' _ _ _ (by rw [hc]; rfl), by rw [World.frozen?_setCell]; exact hf⟩
  · exact ⟨b, o, c, x, e, by rw [World.cell?_setCell_other _ _ _ _ hp]; exact hc, by rw [World.frozen?_setCell]; exact hf⟩
/-- Written over, and nothing else is. -/
def Spoilt (w : World) (vs ve : Value) (e : Ending) (w' : World) : Prop := (∃ v, e = .returned v) ∧ Chg (fun q => vs.ownBlock = some q ∨ ve.ownBlock = some q) w w'
set_option maxRecDepth 100000 in
set_option maxHeartbeats 1000000 in
theorem spoil_any (k : Int) (vs ve : Value) (s e : List Int) (b1 b2 : Nat) (w : World) (hs : Own w b1 3 vs s) (he : Own w b2 2 ve e) (hsl : s.length ≤ 1000000) (hel : e.length ≤ 1000000) : Calls Try.prog 33 #[.agg #[.int .i64 k, vs, ve]] w (Spoilt w vs ve) := by
  obtain ⟨sa, cs, rfl⟩ := own_name hs
  obtain ⟨ea, ce, rfl⟩ := own_name he
  have hlt1 := fun q (h : (Value.slice sa s.length cs).ownBlock = some q) => (hs.lt q h).2
  have hlt2 := fun q (h : (Value.slice ea e.length ce).ownBlock = some q) => (he.lt q h).2
  have n1 : ¬ ((Value.slice sa s.length cs).ownBlock = some w.heap.size ∨ (Value.slice ea e.length ce).ownBlock = some w.heap.size) := fun h => h.elim (fun h => by have := hlt1 _ h; omega) (fun h => by have := hlt2 _ h; omega)
  have hC0 := Chg.mono ((Chg.refl (fun _ => False) w).alloc (.cells #[.int .i64 k, .slice sa s.length cs, .slice ea e.length ce] 25)) (T := fun q => (Value.slice sa s.length cs).ownBlock = some q ∨ (Value.slice ea e.length ce).ownBlock = some q) (fun _ _ h => h.elim)
  obtain ⟨x0, x1, x2⟩ := cell_two w (.int .i64 k) (.slice sa s.length cs) (.slice ea e.length ce) 25
  have hW1 := (Wrt.of hs).chg ((Chg.refl (fun _ => False) w).alloc (.cells #[.int .i64 k, .slice sa s.length cs, .slice ea e.length ce] 25)) (fun _ _ => id)
  have hW2 := (Wrt.of he).chg ((Chg.refl (fun _ => False) w).alloc (.cells #[.int .i64 k, .slice sa s.length cs, .slice ea e.length ce] 25)) (fun _ _ => id)
  obtain ⟨W0, hW0⟩ : ∃ W0, w.alloc (.cells #[.int .i64 k, .slice sa s.length cs, .slice ea e.length ce] 25) = W0 := ⟨_, rfl⟩
  rw [hW0] at hC0 x0 x1 x2 hW1 hW2
  have hsz : w.heap.size < W0.heap.size := cell_lt x0
  have HW := Lib.hid hW0
  have HW1 := Lib.hid hW1
  have HW2 := Lib.hid hW2
  clear hs he hlt1 hlt2 hW0 hW1 hW2
  go_enter Try.func33, Try.ntmps33
  go_wp2
  rw [HW.out]
  go_loopw [7] (fun i wr => ∃ j : Nat, j ≤ e.length ∧ i = .int .i64 j ∧ Wrt wr (.slice sa s.length cs) s.length ∧ Wrt wr (.slice ea e.length ce) e.length ∧ Chg (fun q => (Value.slice sa s.length cs).ownBlock = some q ∨ (Value.slice ea e.length ce).ownBlock = some q) W0 wr) (fun i _ => e.length - (intOf i).toNat)
  case atStart => exact ⟨0, Nat.zero_le _, rfl, HW1.out, HW2.out, Chg.refl _ _⟩
  case round =>
    obtain ⟨j, hj, rfl, hs1, he1, hC⟩ := hrel
    have y2 := hC.cell x2 n1
    have y1 := hC.cell x1 n1
    by_cases hlt : j < e.length
    · have hlt' : (j : Int) < (e.length : Int) := by omega
      have hj0 : (0 : Int) ≤ (j : Int) := by omega
      have hkw : IntKind.i64.wrap ((j : Int) + 1) = (j : Int) + 1 := IntWalk.i64_in _ (by omega)
      obtain ⟨b, o, c, x, e1, hc, hf⟩ := he1 j hlt
      injection e1 with e1 e3 e4
      clear e3 e4
      subst e1
      have HS := Lib.hid (hs1.set ⟨b, o + j, none⟩ (IntKind.i64.wrap (x + 1)))
      have HE := Lib.hid (he1.set ⟨b, o + j, none⟩ (IntKind.i64.wrap (x + 1)))
      have HC := Lib.hid (hC.setCell (p := ⟨b, o + j, none⟩) (.inl (.inr rfl)) (.int .i64 (IntKind.i64.wrap (x + 1))))
      generalize hz : IntKind.i64.wrap (x + 1) = z at *
      clear hs1 he1 hC
      go_wp2
      go_roundw
      case rel => exact ⟨j + 1, hlt, by go_num, HS.out, HE.out, HC.out⟩
      case measure => exact fit_meas j e.length hlt
    · obtain rfl : j = e.length := by omega
      have HS := Lib.hid hs1
      have HC := Lib.hid hC
      clear hs1 he1 hC
      go_wp2
      go_loopw [21] (fun i wr => ∃ j : Nat, j ≤ s.length ∧ i = .int .i64 j ∧ Wrt wr (.slice sa s.length cs) s.length ∧ Chg (fun q => (Value.slice sa s.length cs).ownBlock = some q ∨ (Value.slice ea e.length ce).ownBlock = some q) W0 wr) (fun i _ => s.length - (intOf i).toNat)
      case atStart => exact ⟨0, Nat.zero_le _, rfl, HS.out, HC.out⟩
      case round =>
        obtain ⟨j, hj, rfl, hs1, hC⟩ := hrel
        replace y1 := hC.cell x1 n1
        clear y2
        by_cases hlt : j < s.length
        · have hlt' : (j : Int) < (s.length : Int) := by omega
          have hj0 : (0 : Int) ≤ (j : Int) := by omega
          have hkw : IntKind.i64.wrap ((j : Int) + 1) = (j : Int) + 1 := IntWalk.i64_in _ (by omega)
          obtain ⟨b, o, c, x, e1, hc, hf⟩ := hs1 j hlt
          injection e1 with e1 e3 e4
          clear e3 e4
          subst e1
          have HS := Lib.hid (hs1.set ⟨b, o + j, none⟩ (IntKind.i64.wrap (x + 1)))
          have HC := Lib.hid (hC.setCell (p := ⟨b, o + j, none⟩) (.inl (.inl rfl)) (.int .i64 (IntKind.i64.wrap (x + 1))))
          generalize hz : IntKind.i64.wrap (x + 1) = z at *
          clear hs1 hC
          go_wp2
          go_roundw
          case rel => exact ⟨j + 1, hlt, by go_num, HS.out, HC.out⟩
          case measure => exact fit_meas j s.length hlt
        · obtain rfl : j = s.length := by omega
          go_wp2
          go_end0
          exact ⟨⟨_, rfl⟩, hC0.trans hC (fun _ _ h => h) (fun _ _ h => h)⟩
/-- What comes of an array by a way. -/
def gonA (Y : Wy) (A : Ar) : Ar := if Y.n = 0 then ⟨A.k, Y.s, Y.g.map (pickG A.k A A)⟩ else noA
end Go.Proofs.Ytjmlekdgipinfaa
