/- The table, and the sum of bytes. -/
import Derived.Test.YtccpmbonipfmpaaCrcF
namespace Go.Proofs.Ytccpmbonipfmpaa
open Go.RowKit Go.Shelf

/-- The table lies in block b. -/
def Tab (w : World) (b : Nat) : Prop := ∀ j, j < 256 → w.cell? ⟨b, j, none⟩ = some (.int .u32 (tabN j : Nat))
/-- The first k entries are made. -/
def TabTo (w : World) (b k : Nat) : Prop := ∀ j, j < 256 → w.cell? ⟨b, j, none⟩ = some (.int .u32 ((if j < k then tabN j else 0 : Nat) : Int)) ∧ w.frozen? ⟨b, j, none⟩ = false

def GaveTab (w : World) (e : Ending) (w' : World) : Prop := ∃ b, e = .returned (.pointer (some ⟨b, 0, none⟩)) ∧ w.heap.size ≤ b ∧ Tab w' b ∧ Chg (fun _ => False) w w'

theorem if_succ_ne {j k a b : Nat} (h : ¬ j = k) : (if j < k + 1 then a else b) = if j < k then a else b := by
  by_cases h' : j < k
  · rw [if_pos h', if_pos (by omega)]
  · rw [if_neg h', if_neg (by omega)]
theorem zero_table (w : World) : (zeroValue 96).run Try.prog w = .ok (.agg (List.replicate 256 (Value.int .u32 0)).toArray) w := by kernel_rfl

set_option maxRecDepth 100000 in
set_option maxHeartbeats 1000000 in
theorem known_any (w : World) : Calls Try.prog 58 #[] w (GaveTab w) := by
  have hz := zero_table w
  obtain ⟨Z, hZ⟩ : ∃ Z, (List.replicate 256 (Value.int .u32 0)).toArray = Z := ⟨_, rfl⟩
  rw [hZ] at hz
  have hT0 : TabTo (w.alloc (.cells Z 96)) w.heap.size 0 := fun j hj => ⟨by rw [if_neg (Nat.not_lt_zero _)]; exact new_cell w _ _ (by rw [← hZ, List.getElem?_toArray, List.getElem?_replicate, if_pos hj]; rfl), new_frozen w _ _ _⟩
  have hC0 : Chg (fun _ => False) w (w.alloc (.cells Z 96)) := (Chg.refl _ w).alloc _
  clear hZ
  go_enter Try.func58, Try.ntmps58
  go_wp2
  go_loopw [5] (fun i wr => ∃ k : Nat, k ≤ 256 ∧ i = .int .i64 k ∧ TabTo wr w.heap.size k ∧ Chg (fun _ => False) w wr)
    (fun i _ => 256 - (intOf i).toNat)
  case atStart => exact ⟨0, Nat.zero_le _, rfl, hT0, hC0⟩
  case round =>
    obtain ⟨k, hk, rfl, hT, hC⟩ := hrel
    by_cases hlt : k < 256
    · have hf := fill_any w.heap.size k wr hlt _ (hT k hlt).1 (hT k hlt).2
      have hlt' : (k : Int) < 256 := by omega
      go_wp2_with fail
      refine hf.mono ?_
      rintro e w2 ⟨⟨v, rfl⟩, h1, h2, h3, h4⟩
      have hC2 : Chg (fun _ => False) w w2 := hC.trans h1 (fun _ _ h => h) (fun i hi h => by omega)
      have hT2 : TabTo w2 w.heap.size (k + 1) := fun j hj => by
        by_cases hjk : j = k
        · subst hjk
          rw [if_pos (by omega)]
          exact ⟨h2, (h4 j).trans (hT j hj).2⟩
        · rw [if_succ_ne hjk]
          exact ⟨(h3 j hjk).trans (hT j hj).1, (h4 j).trans (hT j hj).2⟩
      clear hf h1 h2 h3 h4 hT hC hT0 hC0 hz
      go_wp2
      go_roundw
      case rel => exact ⟨k + 1, by omega, by simp, hT2, hC2⟩
      case measure => simp [intOf]; omega
    · obtain rfl : k = 256 := by omega
      go_wp2
      go_ret
      exact ⟨_, rfl, Nat.le_refl _, fun j hj => by have := (hT j hj).1; rwa [if_pos hj] at this, hC⟩

theorem one_u32 (x : Nat) (hx : x < 4294967296) : bits .xor .u32 IntKind.u32.max (x : Int) = ((4294967295 ^^^ x : Nat) : Int) := xor_u32 4294967295 x (by decide) hx
theorem wrap_u8n (c : Nat) : IntKind.u8.wrap (c : Int) = ((c % 256 : Nat) : Int) := by
  rw [show IntKind.u8.wrap (c : Int) = (c : Int) % 256 from by simp [IntKind.wrap, IntKind.bits, IntKind.signed]]; omega
theorem xor_u8 (a b : Nat) (ha : a < 256) (hb : b < 256) : bits .xor .u8 (a : Int) (b : Int) = ((a ^^^ b : Nat) : Int) := by
  have h1 : (BitVec.ofInt 8 (a : Int)).toNat = a := by
    rw [BitVec.ofInt_natCast, BitVec.toNat_ofNat]; exact Nat.mod_eq_of_lt ha
  have h2 : (BitVec.ofInt 8 (b : Int)).toNat = b := by
    rw [BitVec.ofInt_natCast, BitVec.toNat_ofNat]; exact Nat.mod_eq_of_lt hb
  have h3 : a ^^^ b < 256 := Nat.xor_lt_two_pow (n := 8) ha hb
  show IntKind.u8.wrap ((BitVec.ofInt 8 (a : Int) ^^^ BitVec.ofInt 8 (b : Int)).toNat : Int) = _
  rw [BitVec.toNat_xor, h1, h2, wrap_u8n, Nat.mod_eq_of_lt h3]

/-- An answer beside new memory. -/
def Gave (w : World) (v : Value) (e : Ending) (w' : World) : Prop := e = .returned v ∧ Chg (fun _ => False) w w'

set_option maxRecDepth 100000 in
set_option maxHeartbeats 1000000 in
theorem more_any (s : Nat) (u : Value) (xs : List UInt8) (w : World) (hs : s < 4294967296) (hS : Sl w u (xs.map B)) (hl : xs.length ≤ 140737488355328) :
    Calls Try.prog 54 #[.int .u32 s, u] w (Gave w (.int .u32 (moreN s xs : Nat))) := by
  have h0 := known_any w
  obtain ⟨ao, c, rfl, g1, g2, _⟩ := hS.form
  rw [List.length_map] at g1
  have e0 := one_u32 s hs
  have hs' : 4294967295 ^^^ s < 4294967296 := xor_lt (by decide) hs
  have HS := Lib.hid hS
  clear hS
  rw [List.length_map]
  go_enter Try.func54, Try.ntmps54
  go_wp2_with fail
  refine h0.mono ?_
  clear h0
  rintro e w1 ⟨b, rfl, hb, hT, hC⟩
  obtain ⟨q0, hq0⟩ : ∃ q0, 4294967295 ^^^ s = q0 := ⟨_, rfl⟩
  have HQ := Lib.hid hq0
  rw [hq0] at e0 hs'
  clear hq0
  go_wp2
  go_loopw [6, 14] (fun c i wr => ∃ k : Nat, k ≤ xs.length ∧ c = .int .u32 (sumN q0 (xs.take k) : Nat) ∧ i = .int .i64 k ∧ wr = w1)
    (fun _ i _ => xs.length - (intOf i).toNat)
  case atStart => exact ⟨0, Nat.zero_le _, rfl, rfl, rfl⟩
  case round =>
    obtain ⟨k, hk, rfl, rfl, rfl⟩ := hrel
    have hq : sumN q0 (xs.take k) < 4294967296 := sumN_lt _ hs'
    by_cases hlt : k < xs.length
    · have hnx : sumN q0 (xs.take (k + 1)) = (sumN q0 (xs.take k) / 256) ^^^ tabN ((sumN q0 (xs.take k) % 256) ^^^ xs[k].toNat) := by
        rw [List.take_succ_eq_append_getElem hlt, sumN_snoc]
      generalize sumN q0 (xs.take k) = q at *
      obtain ⟨b1, o1, c1, e1, hcl⟩ := (HS.out.fr hC).at (j := k) (by rw [List.length_map]; exact hlt)
      injection e1 with e1 e2 e3
      subst e1
      rw [List.getElem_map] at hcl
      generalize xs[k] = x at *
      obtain ⟨r, hr⟩ : ∃ r, q % 256 = r := ⟨_, rfl⟩
      have hr2 : r < 256 := by omega
      have hw8 := wrap_u8n q
      rw [hr] at hw8 hnx
      have hx8 := xor_u8 r x.toNat hr2 x.toNat_lt
      have ht2 : r ^^^ x.toNat < 256 := Nat.xor_lt_two_pow (n := 8) hr2 x.toNat_lt
      generalize r ^^^ x.toNat = t at *
      have hx32 : bits .xor .u32 ((q : Int) / 256) (tabN t : Nat) = ((q / 256 ^^^ tabN t : Nat) : Int) := by
        rw [show (q : Int) / 256 = ((q / 256 : Nat) : Int) by omega]; exact xor_u32 _ _ (by omega) (tabN_lt (by omega))
      have htc := hT t ht2
      have hti : (t : Int) < 256 := by omega
      have hlt' : (k : Int) < xs.length := by omega
      unfold B at hcl
      clear e2 e3 hr hT
      go_wp2
      go_roundw
      case rel => exact ⟨k + 1, by omega, by rw [hnx], by go_num, trivial⟩
      case measure => first | (simp [intOf]; done) | (simp [intOf]; omega)
    · obtain rfl : k = xs.length := by omega
      rw [List.take_length] at hq
      have e2 := one_u32 _ hq
      rw [List.take_length]
      go_wp2
      go_ret
      refine ⟨?_, hC⟩
      unfold moreN
      rw [HQ.out]
      rfl

end Go.Proofs.Ytccpmbonipfmpaa
