/- The writer's other calls; a copy of bytes. -/
import Derived.Test.YtpiboaoifcajdaaOct
import Derived.Deep.RegionWith
namespace Go.Proofs.Ytpiboaoifcajdaa
open Go.RowKit

/-- The error of a number that is written. -/
def numErr (s : Int) (n : Nat) : Int := if szd s then (if s < 8 ∧ 0 < n / 2 ^ (8 * s.toNat) then 10 else 0) else 2
def numBytes (s : Int) (n : Nat) : List UInt8 := if numErr s n = 0 then be s.toNat n else []

theorem szd_cases {s : Int} (h : szd s = true) : s = 1 ∨ s = 2 ∨ s = 4 ∨ s = 8 := by simpa [szd] using h

/-- What a call that writes answers, and has done. -/
def WroteErr (w : World) (base b : Nat) (v : Value) (e : Int) (ys : List UInt8) (en : Ending) (w' : World) : Prop :=
  en = .returned (.int .i64 e) ∧ ∃ v', Wrote w w' base b v v' ys

set_option maxHeartbeats 400000 in
theorem num_bad (s n : Int) (b base : Nat) (v : Value) (xs : List UInt8) (w : World) (hz : szd s = false) (hW : Wtr w base b v xs) :
    Calls Try.prog 29 #[.pointer (some ⟨b, 0, none⟩), .int .i64 s, .int .u64 n] w (WroteErr w base b v 2 xs) := by
  have hc := hW.cell
  go_enter Try.func29, Try.ntmps29
  go_wp2_with (go_at_call 43; refine (sized_any _ _).mono ?_; rintro e w' ⟨rfl, rfl⟩)
  go_ret
  exact ⟨rfl, v, Wrote.refl hW⟩

set_option maxHeartbeats 400000 in
theorem num_over (sz n b base : Nat) (v : Value) (xs : List UInt8) (w : World) (hz : szd sz = true) (h8 : sz < 8) (_hn : n < 18446744073709551616) (ho : (0 : Int) < (n : Int) / 2 ^ (8 * sz)) (hW : Wtr w base b v xs) :
    Calls Try.prog 29 #[.pointer (some ⟨b, 0, none⟩), .int .i64 sz, .int .u64 n] w (WroteErr w base b v 10 xs) := by
  have hc := hW.cell
  go_enter Try.func29, Try.ntmps29
  go_wp2_with (go_at_call 43; refine (sized_any _ _).mono ?_; rintro e w' ⟨rfl, rfl⟩)
  go_ret
  exact ⟨rfl, v, Wrote.refl hW⟩

theorem num_any (s n : Int) (b base : Nat) (v : Value) (xs : List UInt8) (w : World) (h0 : 0 ≤ n) (hn : n < 18446744073709551616) (hW : Wtr w base b v xs) (hlen : xs.length + 8 ≤ 140737488355328) (hbase : base ≤ w.heap.size) :
    Calls Try.prog 29 #[.pointer (some ⟨b, 0, none⟩), .int .i64 s, .int .u64 n] w (WroteErr w base b v (numErr s n.toNat) (xs ++ numBytes s n.toNat)) := by
  obtain ⟨n, rfl⟩ := Int.eq_ofNat_of_zero_le h0
  rw [Int.toNat_natCast]
  by_cases hz : szd s = true
  · have hs := szd_cases hz
    obtain ⟨k, rfl⟩ := Int.eq_ofNat_of_zero_le (show 0 ≤ s by omega)
    have hc : ((n / 2 ^ (8 * k) : Nat) : Int) = (n : Int) / 2 ^ (8 * k) := by simp
    by_cases ho : (k : Int) < 8 ∧ 0 < n / 2 ^ (8 * k)
    · have e1 : numErr k n = 10 := by unfold numErr; rw [if_pos hz, Int.toNat_natCast, if_pos ho]
      rw [numBytes, e1, if_neg (by decide), List.append_nil]
      exact num_over k n b base v xs w hz (by omega) (by omega) (by rw [← hc]; omega) hW
    · have e1 : numErr k n = 0 := by unfold numErr; rw [if_pos hz, Int.toNat_natCast, if_neg ho]
      rw [numBytes, e1, if_pos rfl, Int.toNat_natCast]
      exact num_ok k n b base v xs w (by omega) (fun h => by rw [← hc]; have : ¬ 0 < n / 2 ^ (8 * k) := fun h' => ho ⟨h, h'⟩; omega) hz (by omega) hW hlen hbase
  · have e1 : numErr s n = 2 := by unfold numErr; rw [if_neg hz]
    rw [numBytes, e1, if_neg (by decide), List.append_nil]
    exact num_bad s n b base v xs w (by simpa using hz) hW

theorem wrap_u64_mod (n : Int) : IntKind.u64.wrap n = n % 18446744073709551616 := by rw [IntKind.wrap_u64]
theorem numErr_8 (n : Nat) : numErr 8 n = 0 := by unfold numErr; rw [if_pos (by decide), if_neg (by omega)]
theorem numBytes_8 (n : Nat) : numBytes 8 n = be 8 n := by rw [numBytes, numErr_8, if_pos rfl]; rfl

set_option maxHeartbeats 400000 in
theorem int_any (n : Int) (b base : Nat) (v : Value) (xs : List UInt8) (w : World) (hW : Wtr w base b v xs) (hlen : xs.length + 8 ≤ 140737488355328) (hbase : base ≤ w.heap.size) :
    Calls Try.prog 30 #[.pointer (some ⟨b, 0, none⟩), .int .i64 n] w (WroteErr w base b v 0 (xs ++ be 8 (n % 18446744073709551616).toNat)) := by
  have h := num_any 8 (IntKind.u64.wrap n) b base v xs w (by rw [wrap_u64_mod]; omega) (by rw [wrap_u64_mod]; omega) hW hlen hbase
  rw [numErr_8, numBytes_8] at h
  go_enter Try.func30, Try.ntmps30
  go_wp2_with fail
  refine h.mono ?_
  rintro e w' ⟨rfl, v', hR⟩
  go_wp2
  go_ret
  rw [wrap_u64_mod] at hR
  exact ⟨rfl, v', hR⟩

def textErr (s : ByteArray) : Int := if 65535 < s.size then 10 else 0
def textBytes (s : ByteArray) : List UInt8 := if 65535 < s.size then [] else be 2 s.size ++ s.data.toList

theorem numErr_2 (n : Nat) (h : n ≤ 65535) : numErr 2 n = 0 := by
  have : n / 2 ^ (8 * (2 : Int).toNat) = 0 := Nat.div_eq_of_lt (by show n < 65536; omega)
  unfold numErr
  rw [if_pos (by decide), if_neg (by rw [this]; omega)]
theorem strCells_B (s : ByteArray) : Lib.strCells s = s.data.toList.map B := rfl



/-- A slice of bytes in new memory. -/
def GaveB (w : World) (ys : List UInt8) (e : Ending) (w' : World) : Prop :=
  ∃ v', e = .returned v' ∧ w'.ownsRow w.heap.size 5 1 v' ys.length (ys.map B) ∧ Chg (fun _ => False) w w'

set_option maxHeartbeats 400000 in
theorem cloneB_any (v : Value) (ys : List UInt8) (w : World) (hS : Sl w v (ys.map B)) (hl : ys.length ≤ 140737488355328) : Calls Try.prog 44 #[v] w (GaveB w ys) := by
  obtain ⟨i0, hi, hz0, hz1, hz2⟩ := info_parts Try.info5
  obtain ⟨ao, c, hu, hl1, hl2, hn⟩ := hS.form
  rw [List.length_map] at hl1 hu
  have HS := Lib.hid (hu ▸ hS)
  subst hu
  clear hS
  have hnil := fun (W : World) (a : Option Addr) (n c : Nat) => Lib.run_eql_slice_nil (P := Try.prog) W 24 5 a n c 0 0 Try.underlying24
  cases ao with
  | none =>
    have h0 := hn rfl
    have hy : ys = [] := List.eq_nil_of_length_eq_zero (by omega)
    subst hy
    subst h0
    go_enter Try.func44, Try.ntmps44
    go_wp2
    go_ret
    exact ⟨_, rfl, World.ownsRow_nil _ _ _ _, Chg.refl _ _⟩
  | some ad =>
    clear hn
    go_enter Try.func44, Try.ntmps44
    go_wp2_with (refine wpList_append_own_any rfl (.tmp 5) (.tmp 6) 24 rfl w.heap.size 5 i0 (.int .u8 0) 1 1 Try.underlying24 hi hz0 hz1 hz2 rfl (by decide) (.slice (some ⟨w.heap.size, 0, none⟩) 0 0) 0 [] rfl (World.ownsRow_lit w #[] 0 (Nat.le_refl _) (Nat.zero_le _) rfl) (some ad) ys.length c (ys.map B) rfl (by simp) (HS.out.fr ((Chg.refl _ _).alloc _)).src (by simp [B, Value.oneCell']) (by unfold maxLen; omega) (by omega) (by simp) ?_; intro v2 w2 hown hg _ hO2; rw [Nat.zero_add, List.nil_append] at hown)
    go_ret
    exact ⟨_, rfl, hown, ((Chg.refl _ w).alloc _).grown hg (fun k e => .inr (by simp [Value.ownBlock] at e; omega))⟩

set_option maxHeartbeats 400000 in
theorem bytes_any (b base : Nat) (v : Value) (xs : List UInt8) (w : World) (hW : Wtr w base b v xs) (hlen : xs.length ≤ 140737488355328) :
    Calls Try.prog 31 #[.pointer (some ⟨b, 0, none⟩)] w (GaveB w xs) := by
  have hc := hW.cell
  have h := cloneB_any v xs w (Sl.of_owns hW.owns) hlen
  go_enter Try.func31, Try.ntmps31
  go_wp2_with fail
  refine h.mono ?_
  rintro e w1 ⟨v1, rfl, h1, h2⟩
  go_wp2
  go_ret
  exact ⟨_, rfl, h1, h2⟩
end Go.Proofs.Ytpiboaoifcajdaa
