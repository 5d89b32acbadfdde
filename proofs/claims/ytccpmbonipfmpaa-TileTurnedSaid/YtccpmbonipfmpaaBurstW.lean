/- CrcBursts: bytes in a block of one's own, and a bit's place among them. -/
import Derived.Test.YtccpmbonipfmpaaBurstB
import Derived.Test.YtccpmbonipfmpaaRegionH
namespace Go.Proofs.Ytccpmbonipfmpaa
open Go.RowKit

theorem own_cells {w : World} {base : Nat} {e : TypeId} {v : Value} {n : Nat} {xs : List Value} (h : w.ownsRow base e 1 v n xs) :
    ∀ q, q < n → ∃ g c u, v = .slice (some ⟨g, 0, none⟩) n c ∧ base ≤ g ∧ w.cell? ⟨g, q, none⟩ = some u ∧ w.frozen? ⟨g, q, none⟩ = false ∧ xs[q]? = some u := by
  intro q hq
  have hl : xs.length = n := by simpa using h.1
  rcases h.2 with ⟨_, h0⟩ | ⟨g, cap, cur, rfl, hb, hg, _, _, _, _⟩
  · omega
  · have hx : xs[q]? = some xs[q] := List.getElem?_eq_getElem (by omega)
    have hc := h.cells (g := g) rfl q _ hx
    rw [Addr.add_lit, Nat.zero_add] at hc
    exact ⟨g, cap, _, rfl, hb, hc, by unfold World.frozen?; rw [hg]; simp, hx⟩
theorem oneCellB (l : List UInt8) : ∀ u ∈ l.map B, u.oneCell' = true := fun u hu => by
  obtain ⟨x, _, rfl⟩ := List.mem_map.1 hu
  rfl
theorem open_sealed (xs : List UInt8) : openL (sealL xs) = xs ∧ openE (sealL xs) = 0 := by
  have h1 : (sealL xs).take ((sealL xs).length - 4) = xs := by
    rw [sealL_length, show xs.length + 4 - 4 = xs.length by omega]
    exact List.take_left
  have h2 : openOk (sealL xs) = true := by
    unfold openOk
    rw [decide_eq_true (by rw [sealL_length]; omega), Bool.true_and, h1]
    exact decide_eq_true rfl
  unfold openL openE
  rw [h2, if_pos rfl, if_pos rfl]
  exact ⟨h1, rfl⟩
/-- Bytes in a block, that may be written. -/
def RowB (w : World) (g : Nat) (l : List UInt8) : Prop := ∀ j y, l[j]? = some y → w.cell? ⟨g, j, none⟩ = some (B y) ∧ w.frozen? ⟨g, j, none⟩ = false
theorem RowB.fr {w w' : World} {g : Nat} {l : List UInt8} {S : Nat → Prop} (h : RowB w g l) (hC : Chg S w w') (hS : ¬ S g) : RowB w' g l := fun j y hj => ⟨hC.cell (h j y hj).1 hS, hC.frozen (h j y hj).1 (h j y hj).2 hS⟩
theorem RowB.set {w : World} {g j : Nat} {l : List UInt8} (h : RowB w g l) (hj : j < l.length) (y : UInt8) : RowB (w.setCell ⟨g, j, none⟩ (B y)) g (l.set j y) := fun i z hi => by
  rw [List.getElem?_set] at hi
  by_cases hij : j = i
  · subst hij
    rw [if_pos rfl, if_pos hj] at hi
    cases hi
    have := (h j _ (List.getElem?_eq_getElem hj)).1
    exact ⟨World.cell?_setCell_same' _ _ _ (by rw [this]; rfl), by rw [World.frozen?_setCell]; exact (h j _ (List.getElem?_eq_getElem hj)).2⟩
  · rw [if_neg hij] at hi
    exact ⟨by rw [World.cell?_setCell_other _ _ _ _ (by first | (simp; done) | (simp; omega))]; exact (h i z hi).1, by rw [World.frozen?_setCell]; exact (h i z hi).2⟩
theorem rowB_of {w : World} {base g L c n : Nat} {xs : List UInt8} (h : w.ownsRow base 5 1 (.slice (some ⟨g, 0, none⟩) L c) n (xs.map B)) : RowB w g xs := fun j y hj => by
  have hl : (xs.map B).length = n := by simpa using h.1
  have hlt : j < xs.length := (List.getElem?_eq_some_iff.1 hj).1
  obtain ⟨g', c', u, e1, _, e3, e4, e5⟩ := own_cells h j (by rw [List.length_map] at hl; omega)
  injection e1 with e1 _ _
  injection e1 with e1
  injection e1 with e1 _
  subst e1
  rw [List.getElem?_map, hj] at e5
  exact ⟨by rw [e3]; exact congrArg some (Option.some.inj e5).symm, e4⟩
theorem sl_of_row {w : World} {g L c : Nat} {l : List UInt8} (h : RowB w g l) (h1 : l.length = L) (h2 : L ≤ c) (h3 : c ≤ maxLen) : Sl w (.slice (some ⟨g, 0, none⟩) L c) (l.map B) := by
  refine ⟨⟨_, c, by rw [List.length_map, h1], by rw [List.length_map, h1]; exact h2, h3, fun e => by cases e⟩, fun j u hu => ?_⟩
  rw [List.getElem?_map] at hu
  cases hx : l[j]? with
  | none => rw [hx] at hu; cases hu
  | some y =>
    rw [hx] at hu
    cases hu
    exact ⟨g, 0, c, by rw [List.length_map, h1], by rw [Nat.zero_add]; exact (h j y hx).1⟩
/-- An own row that is not empty. -/
theorem own_some {w : World} {base : Nat} {e : TypeId} {v : Value} {n : Nat} {xs : List Value} (h : w.ownsRow base e 1 v n xs) (hn : 0 < n) : ∃ g c, v = .slice (some ⟨g, 0, none⟩) n c ∧ base ≤ g ∧ n ≤ c ∧ c ≤ maxLen := by
  rcases h.2 with ⟨_, h0⟩ | ⟨g, cap, cur, rfl, hb, hg, h1, h2, _, _⟩
  · omega
  · exact ⟨g, cap, rfl, hb, h1, h2⟩

theorem wrapE (x : Int) : IntKind.i64.wrap x = wrap64 x := by rw [IntKind.wrap_i64, wrap64]
theorem wrap_nat (q : Nat) (h : q < 4294967296) : wrap64 (q : Int) = (q : Int) := by rw [← wrapE]; exact IntWalk.i64_in _ (by omega)
theorem xorB_zero (l : List UInt8) : xorB l (leB 0 l.length) = l := by
  have hx : (xorB l (leB 0 l.length)).length = l.length := xorB_length _ _ (leB_length _ _).symm
  apply List.ext_getElem hx
  intro j h1 h2
  rw [xorB_get _ _ _ _ h2 (by rw [leB_length]; exact h2), leB_get, Nat.zero_div]
  simp

theorem shl_one (r : Nat) (hr : r < 8) : IntKind.u8.wrap ((2 : Int) ^ r) = ((2 ^ r : Nat) : Int) := by
  have hP2 : 2 ^ r < 256 := Nat.lt_of_lt_of_le (Nat.pow_lt_pow_right (by decide) hr) (by decide)
  have hpow : (2 : Int) ^ r = ((2 ^ r : Nat) : Int) := (Int.natCast_pow 2 _).symm
  rw [hpow]
  generalize 2 ^ r = P at *
  rw [IntKind.wrap_u8]
  omega
theorem xor_byte (y : UInt8) (P : Nat) (hP : P < 256) : bits .xor .u8 (y.toNat : Int) (P : Int) = ((y ^^^ UInt8.ofNat P).toNat : Int) := by
  rw [xor_u8 _ _ y.toNat_lt hP, UInt8.toNat_xor, UInt8.toNat_ofNat']
  congr 2
  omega
/-- A bit's place, and what the walk asks there. -/
theorem round_one (l : List UInt8) (t f k L : Nat) (w : World) (g : Nat) (hl : l.length = L) (hL : L < 4294967296) (hfk : (f + k) / 8 < L) (hb : t / 2 ^ k % 2 = 1) (hR : RowB w g (xorB l (leB (turnX t f k) l.length))) :
    ∃ (s q r P : Nat) (y : UInt8), IntKind.i64.wrap ((f : Int) + (k : Int)) = (s : Int) ∧ (q : Int) < (L : Int) ∧ (r : Int) ≤ 8 ∧ (0 : Int) ≤ (r : Int) ∧ (s : Int) / 8 = (q : Int) ∧ (s : Int) % 8 = (r : Int) ∧
      Int.tdiv (s : Int) 8 = (q : Int) ∧ Int.tmod (s : Int) 8 = (r : Int) ∧ wrap64 (q : Int) = (q : Int) ∧ wrap64 (r : Int) = (r : Int) ∧ IntKind.i64.wrap (q : Int) = (q : Int) ∧ IntKind.i64.wrap (r : Int) = (r : Int) ∧ IntKind.u64.wrap (r : Int) = (r : Int) ∧
      IntKind.u8.wrap ((2 : Int) ^ r) = (P : Int) ∧ bits .xor .u8 (y.toNat : Int) ((2 : Int) ^ min r 8 % 256) = ((y ^^^ UInt8.ofNat P).toNat : Int) ∧
      w.cell? ⟨g, q, none⟩ = some (.int .u8 (y.toNat : Int)) ∧ w.frozen? ⟨g, q, none⟩ = false ∧
      RowB (w.setCell ⟨g, q, none⟩ (.int .u8 ((y ^^^ UInt8.ofNat P).toNat : Int))) g (xorB l (leB (turnX t f (k + 1)) l.length)) := by
  subst hl
  have hr : (f + k) % 8 < 8 := Nat.mod_lt _ (by decide)
  have hP2 : 2 ^ ((f + k) % 8) < 256 := Nat.lt_of_lt_of_le (Nat.pow_lt_pow_right (by decide) hr) (by decide)
  have hxl : (xorB l (leB (turnX t f k) l.length)).length = l.length := xorB_length _ _ (leB_length _ _).symm
  have hq8 : (f + k) / 8 < (xorB l (leB (turnX t f k) l.length)).length := by rw [hxl]; exact hfk
  have htb := turn_bit l (turnX t f k) (f + k) hq8
  have hnx : turnX t f (k + 1) = turnX t f k ^^^ 2 ^ (f + k) := if_pos hb
  have hcy := hR ((f + k) / 8) _ (List.getElem?_eq_getElem hq8)
  have hset := hR.set hq8 ((xorB l (leB (turnX t f k) l.length))[(f + k) / 8] ^^^ UInt8.ofNat (2 ^ ((f + k) % 8)))
  rw [htb, ← hnx] at hset
  have hx := xor_byte ((xorB l (leB (turnX t f k) l.length))[(f + k) / 8]) _ hP2
  have hshl := shl_one _ hr
  have h28 : (2 : Int) ^ min ((f + k) % 8) 8 % 256 = ((2 ^ ((f + k) % 8) : Nat) : Int) := by
    rw [Nat.min_eq_left (by omega), ← hshl, IntKind.wrap_u8]
  rw [← h28] at hx
  have hs : (f : Int) + (k : Int) = ((f + k : Nat) : Int) := (Int.natCast_add f k).symm
  refine ⟨f + k, (f + k) / 8, (f + k) % 8, 2 ^ ((f + k) % 8), _, ?_, ?_, ?_, ?_, ?_, ?_, rfl, rfl, ?_, ?_, ?_, ?_, ?_, hshl, hx, hcy.1, hcy.2, hset⟩
  all_goals clear hx hset hcy htb hnx hR hb hxl hq8 hP2 hshl
  · rw [hs]; exact IntWalk.i64_in _ (by omega)
  · omega
  · omega
  · omega
  · omega
  · omega
  · exact wrap_nat _ (by omega)
  · exact wrap_nat _ (by omega)
  · exact IntWalk.i64_in _ (by omega)
  · exact IntWalk.i64_in _ (by omega)
  · rw [wrap_u64_mod]; omega
theorem list4 : ∀ l : List UInt8, l.length = 4 → ∃ z0 z1 z2 z3, l = [z0, z1, z2, z3]
  | [a, b, c, d], _ => ⟨a, b, c, d, rfl⟩
  | [], h => by simp at h
  | [_], h => by simp at h
  | [_, _], h => by simp at h
  | [_, _, _], h => by simp at h
  | _ :: _ :: _ :: _ :: _ :: _, h => by simp at h
theorem row_four {w : World} {g n : Nat} {zs : List UInt8} {z0 z1 z2 z3 : UInt8} (h : RowB w g (zs ++ [z0, z1, z2, z3])) (hn : zs.length = n) :
    w.cell? ⟨g, n + 3, none⟩ = some (B z3) ∧ w.cell? ⟨g, n + 2, none⟩ = some (B z2) ∧ w.cell? ⟨g, n + 1, none⟩ = some (B z1) ∧ w.cell? ⟨g, n, none⟩ = some (B z0) := by
  subst hn
  refine ⟨(h _ z3 ?_).1, (h _ z2 ?_).1, (h _ z1 ?_).1, (h _ z0 ?_).1⟩
  · rw [List.getElem?_append_right (by omega), show zs.length + 3 - zs.length = 3 by omega]; rfl
  · rw [List.getElem?_append_right (by omega), show zs.length + 2 - zs.length = 2 by omega]; rfl
  · rw [List.getElem?_append_right (by omega), show zs.length + 1 - zs.length = 1 by omega]; rfl
  · rw [List.getElem?_append_right (by omega), Nat.sub_self]; rfl
/-- Behind the 32 bits. -/
theorem turned (xs : List UInt8) (t f n m : Nat) (p0 p1 p2 p3 : UInt8) (hn : xs.length = n) (ht : t < 4294967296) (hf : f ≤ 8 * n) (hm : moreN 0 xs = m) (hp : leB m 4 = [p0, p1, p2, p3]) (w : World) (g : Nat)
    (hR : RowB w g (xorB (xs ++ [p0, p1, p2, p3]) (leB (turnX t f 32) (xs ++ [p0, p1, p2, p3]).length))) :
    ∃ zs z0 z1 z2 z3, zs.length = n ∧ RowB w g (zs ++ [z0, z1, z2, z3]) ∧ openOk (zs ++ [z3, z2, z1, z0]) = decide (t = 0) := by
  subst hn
  rw [← hp, ← hm, List.length_append, leB_length] at hR
  have hb := burst_open xs t f ht hf _ rfl
  have hl : (xorB (xs ++ leB (moreN 0 xs) 4) (leB (turnX t f 32) (xs.length + 4))).length = xs.length + 4 := by
    rw [xorB_length _ _ (by rw [leB_length, List.length_append, leB_length]), List.length_append, leB_length]
  generalize xorB (xs ++ leB (moreN 0 xs) 4) (leB (turnX t f 32) (xs.length + 4)) = l at *
  obtain ⟨z0, z1, z2, z3, hz⟩ := list4 (l.drop xs.length) (by rw [List.length_drop, hl]; omega)
  refine ⟨l.take xs.length, z0, z1, z2, z3, by rw [List.length_take, hl]; omega, ?_, ?_⟩
  · rw [← hz, List.take_append_drop]; exact hR
  · rw [hz] at hb; exact hb
end Go.Proofs.Ytccpmbonipfmpaa
