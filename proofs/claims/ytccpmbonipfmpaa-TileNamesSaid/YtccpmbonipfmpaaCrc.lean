/- The sum's register, as plain numbers; and the iterator of a byte's eight steps. -/
import Derived.Test.YtccpmbonipfmpaaRangeT
import Derived.Test.YtccpmbonipfmpaaOctW
import Derived.Laws.Bits64b
namespace Go.Proofs.Ytccpmbonipfmpaa
open Go.RowKit Go.Shelf
attribute [local go_sem] Oper.semAt_some

/-- A step of the register. -/
def stepN (c : Nat) : Nat := if c % 2 = 1 then (c / 2) ^^^ 3988292384 else c / 2
def regN (c : Nat) : Nat → Nat
  | 0 => c
  | k + 1 => stepN (regN c k)
/-- A byte's entry. -/
def tabN (i : Nat) : Nat := regN i 8
def sumN (c : Nat) (l : List UInt8) : Nat := l.foldl (fun c x => (c / 256) ^^^ tabN ((c % 256) ^^^ x.toNat)) c
def moreN (s : Nat) (l : List UInt8) : Nat := 4294967295 ^^^ sumN (4294967295 ^^^ s) l

theorem xor_lt {a b : Nat} (ha : a < 4294967296) (hb : b < 4294967296) : a ^^^ b < 4294967296 := Nat.xor_lt_two_pow (n := 32) ha hb
theorem stepN_lt {c : Nat} (h : c < 4294967296) : stepN c < 4294967296 := by
  unfold stepN
  split
  · exact xor_lt (by omega) (by decide)
  · omega
theorem regN_lt {c : Nat} (h : c < 4294967296) : ∀ k, regN c k < 4294967296
  | 0 => h
  | k + 1 => stepN_lt (regN_lt h k)
theorem tabN_lt {i : Nat} (h : i < 4294967296) : tabN i < 4294967296 := regN_lt h 8
theorem byte_xor_lt (c : Nat) (x : UInt8) : (c % 256) ^^^ x.toNat < 256 := Nat.xor_lt_two_pow (n := 8) (Nat.mod_lt _ (by decide)) x.toNat_lt
theorem sumN_lt (l : List UInt8) : ∀ {c : Nat}, c < 4294967296 → sumN c l < 4294967296 := by
  induction l with
  | nil => exact fun h => h
  | cons x l ih => exact fun h => ih (xor_lt (by omega) (tabN_lt (Nat.lt_of_lt_of_le (byte_xor_lt _ x) (by decide))))
theorem moreN_lt (l : List UInt8) {s : Nat} (h : s < 4294967296) : moreN s l < 4294967296 := xor_lt (by decide) (sumN_lt l (xor_lt (by decide) h))
theorem sumN_snoc (c : Nat) (l : List UInt8) (x : UInt8) : sumN c (l ++ [x]) = (sumN c l / 256) ^^^ tabN ((sumN c l % 256) ^^^ x.toNat) := by simp [sumN]

theorem ofInt32 {a : Nat} (ha : a < 4294967296) : (BitVec.ofInt 32 (a : Int)).toNat = a := by
  rw [BitVec.ofInt_natCast, BitVec.toNat_ofNat]; exact Nat.mod_eq_of_lt ha
theorem wrap_u32n {a : Nat} (ha : a < 4294967296) : IntKind.u32.wrap (a : Int) = a := by
  rw [show IntKind.u32.wrap (a : Int) = (a : Int) % 4294967296 from by simp [IntKind.wrap, IntKind.bits, IntKind.signed]]; omega
theorem xor_u32 (a b : Nat) (ha : a < 4294967296) (hb : b < 4294967296) : bits .xor .u32 (a : Int) (b : Int) = ((a ^^^ b : Nat) : Int) := by
  show IntKind.u32.wrap ((BitVec.ofInt 32 (a : Int) ^^^ BitVec.ofInt 32 (b : Int)).toNat : Int) = _
  rw [BitVec.toNat_xor, ofInt32 ha, ofInt32 hb, wrap_u32n (xor_lt ha hb)]
theorem and_u32_one (a : Nat) (ha : a < 4294967296) : bits .and .u32 (a : Int) 1 = ((a % 2 : Nat) : Int) := by
  show IntKind.u32.wrap ((BitVec.ofInt 32 (a : Int) &&& BitVec.ofInt 32 ((1 : Nat) : Int)).toNat : Int) = _
  rw [BitVec.toNat_and, ofInt32 ha, ofInt32 (by decide), Nat.and_one_is_mod, wrap_u32n (by omega)]

/-- What the iterator tells. -/
def lowsL (c k : Nat) : List (Nat × Bool) := (List.range k).map fun j => (regN c j / 2, decide (regN c j % 2 = 1))
theorem lowsL_succ (c k : Nat) : lowsL c (k + 1) = lowsL c k ++ [(regN c k / 2, decide (regN c k % 2 = 1))] := by simp [lowsL, List.range_succ]
theorem lowsL_length (c k : Nat) : (lowsL c k).length = k := by simp [lowsL]
def encL (x : Nat × Bool) : Array Value := #[.int .u32 (x.1 : Int), .bool x.2]

theorem lows_any (c : Int) (w : World) : Calls Try.prog 61 #[.int .u32 c] w fun e w' => e = .returned (.func (.func 62) #[] #[.pointer (some ⟨w.heap.size, 0, none⟩)]) ∧ w' = w.alloc (.cells #[.int .u32 c] 44) := by
  go_enter Try.func61, Try.ntmps61
  go_wp2
  go_ret
  exact ⟨rfl, rfl⟩

set_option maxRecDepth 100000 in
set_option maxHeartbeats 1000000 in
theorem lows1_in (l Bs c : Nat) (hc : c < 4294967296) (J Jx : List (Nat × Bool) → World → Prop)
    (hY : ∀ pre x W1, J pre W1 → pre.length < 8 → YieldAt Fence.wide 6 Try.prog l (encL x) W1 fun e W' =>
      (e = .returned (.bool true) ∧ J (pre ++ [x]) W' ∧ Keep (fun k => k = Bs) W1 W') ∨ (e = .returned (.bool false) ∧ Jx (pre ++ [x]) W'))
    (W : World) (hJ : AbidesT (fun k => k = Bs) J) (hBs : W.cell? ⟨Bs, 0, none⟩ = some (.int .u32 c)) (hfz : W.frozen? ⟨Bs, 0, none⟩ = false) (h0 : J [] W) :
    CallsIn Fence.wide 7 Try.prog 62 #[.func (.yield l) #[] #[], .pointer (some ⟨Bs, 0, none⟩)] W fun e W' => (∃ v, e = .returned v) ∧
      ((∃ ys, ys = lowsL c 8 ∧ J ys W') ∨ (∃ pre, True ∧ Jx pre W')) := by
  (refine callsIn_of_wp Try.func62 rfl trivial ?_ rfl; simp only [Try.ntmps62, List.size_toArray, List.length_cons, List.length_nil, Nat.reduceAdd, Nat.reduceSub, Array.replicate_succ, Array.replicate_zero, List.push_toArray, List.append_toArray, List.nil_append, List.cons_append])
  refine wpIn_wide.2 ?_
  go_wp2
  refine (wpIn_wide (n := 7)).1 ?_
  gi_loopw [4] (fun i wr => ∃ k : Nat, k ≤ 8 ∧ i = .int .i64 k ∧ J (lowsL c k) wr ∧ wr.cell? ⟨Bs, 0, none⟩ = some (.int .u32 (regN c k)) ∧ wr.frozen? ⟨Bs, 0, none⟩ = false)
    (fun i _ => 8 - (intOf i).toNat)
  case atStart => exact ⟨0, Nat.zero_le _, rfl, h0, hBs, hfz⟩
  case round =>
    obtain ⟨k, hk, rfl, hJs, hcl, hfl⟩ := hrel
    have hq := regN_lt hc k
    by_cases hlt : k < 8
    · have hnext := lowsL_succ c k
      have hrn : regN c (k + 1) = stepN (regN c k) := rfl
      generalize regN c k = q at *
      have hl8 : (lowsL c k).length < 8 := by rw [lowsL_length]; exact hlt
      have ha := and_u32_one q hq
      have hx : bits .xor .u32 ((q : Int) / 2) 3988292384 = ((q / 2 ^^^ 3988292384 : Nat) : Int) := by
        rw [show (q : Int) / 2 = ((q / 2 : Nat) : Int) by omega]; exact xor_u32 _ _ (by omega) (by decide)
      have e1 : ((q / 2 : Nat) : Int) = (q : Int) / 2 := by omega
      have hC1 : Chg (fun k => k = Bs) wr (wr.setCell ⟨Bs, 0, none⟩ (.int .u32 ((q : Int) / 2))) := chg_cell _ _ _ _
      by_cases hp : q % 2 = 1
      · have p1 : (q : Int) % 2 = 1 := by omega
        have hst : stepN q = q / 2 ^^^ 3988292384 := by unfold stepN; rw [if_pos hp]
        rw [decide_eq_true hp] at hnext
        obtain ⟨fn, tmps, assign, body, hy, hRd⟩ := hY _ (q / 2, true) _ (hJ _ _ _ hJs hC1) hl8
        simp only [encL, e1] at hy
        gi_wp2
        refine hRd.mono ?_
        rintro e W3 (⟨rfl, hJ3, hk3⟩ | ⟨rfl, hJx3⟩)
        · have c3 : W3.cell? ⟨Bs, 0, none⟩ = some (.int .u32 ((q : Int) / 2)) := (hk3.cell rfl).trans (World.cell?_setCell_same' _ _ _ (by rw [hcl]; rfl))
          have f3 : W3.frozen? ⟨Bs, 0, none⟩ = false := (hk3.frozen rfl).trans (by rw [World.frozen?_setCell]; exact hfl)
          gi_wp2
          go_roundw
          case rel => exact ⟨k + 1, by omega, by simp, by rw [hnext]; exact hJ _ _ _ hJ3 (chg_cell _ _ _ _), by rw [hrn, hst]; exact World.cell?_setCell_same' _ _ _ (by rw [c3]; rfl), by rw [World.frozen?_setCell]; exact f3⟩
          case measure => simp [intOf]; omega
        · gi_wp2
          refine bodyPost_ret (results_none rfl _ _ _) rfl ?_
          exact ⟨⟨_, rfl⟩, .inr ⟨_, trivial, hJx3⟩⟩
      · have p1 : (q : Int) % 2 = 0 := by omega
        have hst : stepN q = q / 2 := by unfold stepN; rw [if_neg hp]
        rw [decide_eq_false hp] at hnext
        obtain ⟨fn, tmps, assign, body, hy, hRd⟩ := hY _ (q / 2, false) _ (hJ _ _ _ hJs hC1) hl8
        simp only [encL, e1] at hy
        gi_wp2
        refine hRd.mono ?_
        rintro e W3 (⟨rfl, hJ3, hk3⟩ | ⟨rfl, hJx3⟩)
        · have c3 : W3.cell? ⟨Bs, 0, none⟩ = some (.int .u32 ((q : Int) / 2)) := (hk3.cell rfl).trans (World.cell?_setCell_same' _ _ _ (by rw [hcl]; rfl))
          have f3 : W3.frozen? ⟨Bs, 0, none⟩ = false := (hk3.frozen rfl).trans (by rw [World.frozen?_setCell]; exact hfl)
          gi_wp2
          go_roundw
          case rel => exact ⟨k + 1, by omega, by simp, by rw [hnext]; exact hJ3, by rw [hrn, hst, e1]; exact c3, f3⟩
          case measure => simp [intOf]; omega
        · gi_wp2
          refine bodyPost_ret (results_none rfl _ _ _) rfl ?_
          exact ⟨⟨_, rfl⟩, .inr ⟨_, trivial, hJx3⟩⟩
    · obtain rfl : k = 8 := by omega
      gi_wp2
      go_end0
      exact ⟨⟨_, rfl⟩, .inl ⟨_, rfl, hJs⟩⟩
end Go.Proofs.Ytccpmbonipfmpaa
