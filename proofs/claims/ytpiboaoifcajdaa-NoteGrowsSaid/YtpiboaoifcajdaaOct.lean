/- Contracts of package octet. -/
import Derived.Test.YtpiboaoifcajdaaRows
import Derived.Test.YtpiboaoifcajdaaBase
import Derived.BigQuiet
import Derived.Deep.QuietTactic
namespace Go.Proofs.Ytpiboaoifcajdaa
open Go.RowKit

/-- A byte as a value. -/
def B (u : UInt8) : Value := .int .u8 (u.toNat : Int)

/-- The writer in block b holds the bytes xs, its own slice is v. -/
structure Wtr (w : World) (base b : Nat) (v : Value) (xs : List UInt8) : Prop where
  cell : w.cell? ⟨b, 0, none⟩ = some v
  frozen : w.frozen? ⟨b, 0, none⟩ = false
  owns : w.ownsRow base 5 1 v xs.length (xs.map B)
  lt : b < base

/-- What a call on the writer has done. -/
structure Wrote (w w' : World) (base b : Nat) (v v' : Value) (ys : List UInt8) : Prop where
  wtr : Wtr w' base b v' ys
  chg : Chg (fun j => j = b ∨ v.ownBlock = some j) w w'
  own : ∀ k, v'.ownBlock = some k → v.ownBlock = some k ∨ w.heap.size ≤ k

theorem Wrote.refl {w : World} {base b : Nat} {v : Value} {xs : List UInt8} (h : Wtr w base b v xs) : Wrote w w base b v v xs := ⟨h, Chg.refl _ _, fun _ h => .inl h⟩
theorem Wrote.trans {w w1 w2 : World} {base b : Nat} {v v1 v2 : Value} {ys zs : List UInt8} (h : Wrote w w1 base b v v1 ys) (k : Wrote w1 w2 base b v1 v2 zs) : Wrote w w2 base b v v2 zs :=
  ⟨k.wtr, h.chg.trans k.chg (fun _ _ h => h) (fun i hi e => e.elim .inl fun e => (h.own i e).elim .inr fun e => by omega),
   fun i e => (k.own i e).elim (fun e => h.own i e) fun e => .inr (by have := h.chg.size; omega)⟩

theorem Wtr.ne {w : World} {base b : Nat} {v : Value} {xs : List UInt8} (h : Wtr w base b v xs) : some b ≠ v.ownBlock := by
  intro e
  have := (h.owns.lt _ e.symm).1
  have := h.lt
  omega

theorem Wtr.chg {S : Nat → Prop} {w w' : World} {base b : Nat} {v : Value} {xs : List UInt8} (h : Wtr w base b v xs) (hC : Chg S w w') (hb : ¬ S b) (hv : ∀ k, v.ownBlock = some k → ¬ S k) : Wtr w' base b v xs :=
  ⟨hC.cell h.cell hb, hC.frozen h.cell h.frozen hb, hC.owns h.owns hv, h.lt⟩

/-- An append, stored back. -/
theorem Wtr.step {w wm w1 : World} {base b : Nat} {v v2 : Value} {ys zs : List UInt8} {n m : Nat} {news : List Value} (hW : Wtr w base b v ys) (hm : Chg (fun _ => False) w wm) (hg : wm.grownBy w1 v.ownBlock)
    (hown : w1.ownsRow base 5 1 v2 (n + m) (ys.map B ++ news)) (hn : n = ys.length) (hmm : m = zs.length) (hnews : news = zs.map B) (hO : ∀ k, v2.ownBlock = some k → v.ownBlock = some k ∨ wm.heap.size ≤ k) :
    Wrote w (w1.setCell ⟨b, 0, none⟩ v2) base b v v2 (ys ++ zs) := by
  subst hn hmm hnews
  have hbm : w1.cell? ⟨b, 0, none⟩ = some v := hg.cell (hm.cell hW.cell id) hW.ne
  have hfm : w1.frozen? ⟨b, 0, none⟩ = false := grown_frozen hg (hm.cell hW.cell id) (hm.frozen hW.cell hW.frozen id) hW.ne
  refine ⟨⟨World.cell?_setCell_same' _ _ _ (by rw [hbm]; rfl), by rw [World.frozen?_setCell]; exact hfm, ?_, hW.lt⟩, ?_, fun k e => (hO k e).elim .inl fun e => .inr (by have := hm.size; omega)⟩
  · rw [List.length_append, List.map_append]
    exact ownsRow_setCell_below hown hW.lt _
  · exact ((hm.mono (fun _ _ h => h.elim)).grown hg (fun k e => .inl (.inr e))).setCell (.inl (.inl rfl)) _

def szd (s : Int) : Bool := decide (s = 1 ∨ s = 2 ∨ s = 4 ∨ s = 8)

set_option maxHeartbeats 400000 in
theorem sized_any (s : Int) (w : World) : Calls Try.prog 43 #[.int .i64 s] w fun e w' => e = .returned (.bool (szd s)) ∧ w = w' := by
  unfold szd
  by_cases h1 : s = 1
  · subst h1
    go_enter Try.func43, Try.ntmps43
    go_wp2
    go_ret
    exact ⟨rfl, rfl⟩
  · by_cases h2 : s = 2
    · subst h2
      go_enter Try.func43, Try.ntmps43
      go_wp2
      go_ret
      exact ⟨rfl, rfl⟩
    · by_cases h4 : s = 4
      · subst h4
        go_enter Try.func43, Try.ntmps43
        go_wp2
        go_ret
        exact ⟨rfl, rfl⟩
      · have e1 : (s == 1) = false := by simpa using h1
        have e2 : (s == 2) = false := by simpa using h2
        have e4 : (s == 4) = false := by simpa using h4
        go_enter Try.func43, Try.ntmps43
        go_wp2
        go_ret
        refine ⟨?_, rfl⟩
        simp [h1, h2, h4, BEq.beq]

/-- A number's bytes, the highest first. -/
def be (sz n : Nat) : List UInt8 := (List.range sz).map fun j => UInt8.ofNat (n / 2 ^ (8 * (sz - 1 - j)))
theorem be_length (sz n : Nat) : (be sz n).length = sz := by simp [be]

theorem Try.info5 : (Try.prog.info? 5).map (fun i => (i.zero, i.size, i.bytes)) = some (some (.int .u8 0), 1, 1) := by kernel_rfl

theorem be_take (sz n k : Nat) (h : k < sz) : (be sz n).take (k + 1) = (be sz n).take k ++ [UInt8.ofNat (n / 2 ^ (8 * (sz - 1 - k)))] := by
  rw [List.take_succ_eq_append_getElem (by simpa [be] using h)]
  simp [be]
theorem B_ofNat (n : Nat) : B (UInt8.ofNat n) = .int .u8 (IntKind.u8.wrap (n : Int)) := by
  rw [IntKind.wrap_u8]
  simp [B]
theorem B_byte (n i : Nat) : [Value.int .u8 (IntKind.u8.wrap ((n : Int) / 2 ^ (8 * i)))] = [UInt8.ofNat (n / 2 ^ (8 * i))].map B := by
  rw [List.map_singleton, B_ofNat]
  simp

set_option maxRecDepth 100000 in
set_option maxHeartbeats 400000 in
theorem num_ok (sz n b base : Nat) (v : Value) (xs : List UInt8) (w : World) (hs : sz ≤ 8) (hg0 : ((sz : Int) < 8) → (n : Int) / 2 ^ (8 * sz) ≤ 0) (hz : szd sz = true) (_hn : n < 18446744073709551616) (hW : Wtr w base b v xs) (hlen : xs.length + 8 ≤ 140737488355328) (hbase : base ≤ w.heap.size) :
    Calls Try.prog 29 #[.pointer (some ⟨b, 0, none⟩), .int .i64 sz, .int .u64 n] w fun e w' => e = .returned (.int .i64 0) ∧ ∃ v', Wrote w w' base b v v' (xs ++ be sz n) := by
  have hc := hW.cell
  have hf := hW.frozen
  obtain ⟨i0, hi, hz0, hz1, hz2⟩ := info_parts Try.info5
  have hg1 : sz < 8 → (n : Int) / 2 ^ (8 * sz) ≤ 0 := fun h => hg0 (by omega)
  clear hg0
  by_cases h8 : sz < 8
  · have hg2 := hg1 h8
    clear hg1
    go_enter Try.func29, Try.ntmps29
    go_wp2_with (go_at_call 43; refine (sized_any _ _).mono ?_; rintro e w' ⟨rfl, rfl⟩)
    go_loopw [7] (fun i wr => ∃ (j k : Nat) (q : Int) (v' : Value), j + k = sz ∧ i = .int .i64 q ∧ q = (j : Int) - 1 ∧ Wrote w wr base b v v' (xs ++ (be sz n).take k))
      (fun i _ => (intOf i + 1).toNat)
    case atStart => exact ⟨sz, 0, _, v, by omega, rfl, by first | rfl | simp, by simpa using Wrote.refl hW⟩
    case round =>
      obtain ⟨j, k, q, v', hk, rfl, hq, hR⟩ := hrel
      have hc' := hR.wtr.cell
      have hf' := hR.wtr.frozen
      by_cases hlt : 0 < j
      · obtain ⟨i, rfl⟩ : ∃ i, j = i + 1 := ⟨j - 1, by omega⟩
        obtain rfl : q = (i : Int) := by omega
        have hi1 : (i : Int) ≤ 7 := by omega
        clear hq
        have hw1 : IntKind.i64.wrap (8 * (i : Int)) = 8 * (i : Int) := IntWalk.i64_in _ (by omega)
        have hw2 : (8 * (i : Int)).toNat = 8 * i := by omega
        have hw3 : (0 : Int) ≤ 8 * (i : Int) := by omega
        have hw4 : 8 * i < 64 := by omega
        have hblt : b < wr.heap.size := cell_lt hc'
        go_wp2
        go_region_law (refine step_append_own rfl (.tmp 35) (.tmp 41) 24 rfl base 5 i0 (.int .u8 0) 1 1 Try.underlying24 hi hz0 hz1 hz2 rfl (by decide) v' _ _ (by simp [Act.eval]) (hR.wtr.owns.alloc _) (some ⟨wr.heap.size, 0, none⟩) 1 1 [.int .u8 (IntKind.u8.wrap ((n : Int) / 2 ^ (8 * i)))] (by simp [Act.eval]) rfl (fun j u hu => ⟨_, rfl, cell_one_new wr _ _ j u hu⟩) (by simp [Value.oneCell']) (by have := hlen; simp [be_length, maxLen]; omega) (by have := hlen; simp [be_length]; omega) (by have := hR.chg.size; simp; omega) ?_; intro v2 w1 hown hg _ hO2; have R := hR.trans (hR.wtr.step ((Chg.refl _ wr).alloc _).drew hg hown rfl rfl (B_byte n i) hO2); have hc1 : w1.cell? ⟨b, 0, none⟩ = some v' := hg.cell (alloc_cell hc' _) hR.wtr.ne; have hf1 : w1.frozen? ⟨b, 0, none⟩ = false := grown_frozen hg (alloc_cell hc' _) (alloc_frozen hc' hf' _) hR.wtr.ne; obtain ⟨ao2, L2, c2, rfl, hb2⟩ := owns_name hown)
        all_goals
          go_wp2
          go_roundw
          case rel => exact ⟨i, k + 1, _, _, by omega, rfl, rfl, by rw [be_take sz n k (by omega), show sz - 1 - k = i by omega, ← List.append_assoc]; exact R⟩
          case measure => first | (simp [intOf]; done) | (simp [intOf]; omega)
      · go_wp2
        go_ret
        obtain rfl : k = sz := by omega
        exact ⟨rfl, v', by rw [List.take_of_length_le (by simp [be_length])] at hR; exact hR⟩
  · clear hg1
    go_enter Try.func29, Try.ntmps29
    go_wp2_with (go_at_call 43; refine (sized_any _ _).mono ?_; rintro e w' ⟨rfl, rfl⟩)
    go_loopw [7] (fun i wr => ∃ (j k : Nat) (q : Int) (v' : Value), j + k = sz ∧ i = .int .i64 q ∧ q = (j : Int) - 1 ∧ Wrote w wr base b v v' (xs ++ (be sz n).take k))
      (fun i _ => (intOf i + 1).toNat)
    case atStart => exact ⟨sz, 0, _, v, by omega, rfl, by first | rfl | simp, by simpa using Wrote.refl hW⟩
    case round =>
      obtain ⟨j, k, q, v', hk, rfl, hq, hR⟩ := hrel
      have hc' := hR.wtr.cell
      have hf' := hR.wtr.frozen
      by_cases hlt : 0 < j
      · obtain ⟨i, rfl⟩ : ∃ i, j = i + 1 := ⟨j - 1, by omega⟩
        obtain rfl : q = (i : Int) := by omega
        have hi1 : (i : Int) ≤ 7 := by omega
        clear hq
        have hw1 : IntKind.i64.wrap (8 * (i : Int)) = 8 * (i : Int) := IntWalk.i64_in _ (by omega)
        have hw2 : (8 * (i : Int)).toNat = 8 * i := by omega
        have hw3 : (0 : Int) ≤ 8 * (i : Int) := by omega
        have hw4 : 8 * i < 64 := by omega
        have hblt : b < wr.heap.size := cell_lt hc'
        go_wp2
        go_region_law (refine step_append_own rfl (.tmp 35) (.tmp 41) 24 rfl base 5 i0 (.int .u8 0) 1 1 Try.underlying24 hi hz0 hz1 hz2 rfl (by decide) v' _ _ (by simp [Act.eval]) (hR.wtr.owns.alloc _) (some ⟨wr.heap.size, 0, none⟩) 1 1 [.int .u8 (IntKind.u8.wrap ((n : Int) / 2 ^ (8 * i)))] (by simp [Act.eval]) rfl (fun j u hu => ⟨_, rfl, cell_one_new wr _ _ j u hu⟩) (by simp [Value.oneCell']) (by have := hlen; simp [be_length, maxLen]; omega) (by have := hlen; simp [be_length]; omega) (by have := hR.chg.size; simp; omega) ?_; intro v2 w1 hown hg _ hO2; have R := hR.trans (hR.wtr.step ((Chg.refl _ wr).alloc _).drew hg hown rfl rfl (B_byte n i) hO2); have hc1 : w1.cell? ⟨b, 0, none⟩ = some v' := hg.cell (alloc_cell hc' _) hR.wtr.ne; have hf1 : w1.frozen? ⟨b, 0, none⟩ = false := grown_frozen hg (alloc_cell hc' _) (alloc_frozen hc' hf' _) hR.wtr.ne; obtain ⟨ao2, L2, c2, rfl, hb2⟩ := owns_name hown)
        all_goals
          go_wp2
          go_roundw
          case rel => exact ⟨i, k + 1, _, _, by omega, rfl, rfl, by rw [be_take sz n k (by omega), show sz - 1 - k = i by omega, ← List.append_assoc]; exact R⟩
          case measure => first | (simp [intOf]; done) | (simp [intOf]; omega)
      · go_wp2
        go_ret
        obtain rfl : k = sz := by omega
        exact ⟨rfl, v', by rw [List.take_of_length_le (by simp [be_length])] at hR; exact hR⟩
end Go.Proofs.Ytpiboaoifcajdaa
