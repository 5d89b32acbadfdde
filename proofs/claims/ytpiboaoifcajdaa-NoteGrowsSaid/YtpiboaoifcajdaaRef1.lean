/- The document's answer for octet. -/
import Derived.Test.YtpiboaoifcajdaaOctQ
namespace Go.Proofs.Ytpiboaoifcajdaa
open Go.RowKit

set_option maxHeartbeats 400000 in
theorem rsized_any (s : Int) (w : World) : Calls Try.prog 45 #[.int .i64 s] w fun e w' => e = .returned (.bool (szd s)) ∧ w = w' := by
  unfold szd
  by_cases h1 : s = 1
  · subst h1
    go_enter Try.func45, Try.ntmps45
    go_wp2
    go_ret
    exact ⟨rfl, rfl⟩
  · by_cases h2 : s = 2
    · subst h2
      go_enter Try.func45, Try.ntmps45
      go_wp2
      go_ret
      exact ⟨rfl, rfl⟩
    · by_cases h4 : s = 4
      · subst h4
        go_enter Try.func45, Try.ntmps45
        go_wp2
        go_ret
        exact ⟨rfl, rfl⟩
      · have e1 : (s == 1) = false := by simpa using h1
        have e2 : (s == 2) = false := by simpa using h2
        have e4 : (s == 4) = false := by simpa using h4
        go_enter Try.func45, Try.ntmps45
        go_wp2
        go_ret
        refine ⟨?_, rfl⟩
        simp [h1, h2, h4, BEq.beq]

theorem oneCell_B (l : List UInt8) : ∀ u ∈ l.map B, u.oneCell' = true := by
  intro u hu
  obtain ⟨x, _, rfl⟩ := List.mem_map.1 hu
  rfl

/-- What the reference's writing functions answer. -/
def GaveBE (w : World) (ys : List UInt8) (er : Int) (e : Ending) (w' : World) : Prop :=
  ∃ v', e = .returned (.tuple #[v', .int .i64 er]) ∧ w'.ownsRow w.heap.size 5 1 v' ys.length (ys.map B) ∧ Chg (fun _ => False) w w'

theorem be_low (k n : Nat) : be (k + 1) n = UInt8.ofNat (n / 2 ^ (8 * k) % 256) :: be k n := by
  rw [be_succ]
  congr 1
  apply UInt8.toNat_inj.1
  simp

set_option maxHeartbeats 400000 in
theorem refNum_bad (s : Int) (n : Int) (w : World) (hz : szd s = false) : Calls Try.prog 32 #[.int .i64 s, .int .u64 n] w (GaveBE w [] 2) := by
  go_enter Try.func32, Try.ntmps32
  go_wp2_with (go_at_call 45; refine (rsized_any _ _).mono ?_; rintro e w' ⟨rfl, rfl⟩)
  go_ret2
  exact ⟨_, rfl, World.ownsRow_nil _ _ _ _, Chg.refl _ _⟩

theorem numErr_q {sz n : Nat} (hz : szd sz = true) (hn : n < 18446744073709551616) : numErr sz n = if 0 < n / 2 ^ (8 * sz) then 10 else 0 := by
  unfold numErr
  rw [if_pos hz, Int.toNat_natCast]
  by_cases h8 : (sz : Int) < 8
  · simp [h8]
  · have h : sz = 8 := by have := szd_cases hz; omega
    subst h
    have : n / 2 ^ (8 * 8) = 0 := Nat.div_eq_of_lt (by show n < 2 ^ 64; omega)
    simp [this]

set_option maxHeartbeats 800000 in
theorem refNum_good (sz n : Nat) (w : World) (hz : szd sz = true) (hn : n < 18446744073709551616) : Calls Try.prog 32 #[.int .i64 sz, .int .u64 n] w (GaveBE w (numBytes sz n) (numErr sz n)) := by
  obtain ⟨i0, hi, hz0, hz1, hz2⟩ := info_parts Try.info5
  have hc := szd_cases hz
  have hs8 : sz ≤ 8 := by omega
  clear hc
  go_enter Try.func32, Try.ntmps32
  go_wp2_with (go_at_call 45; refine (rsized_any _ _).mono ?_; rintro e w' ⟨rfl, rfl⟩)
  go_loopw [1, 6, 7] (fun m out i wr => ∃ (k : Nat) (q : Nat), k ≤ sz ∧ i = .int .i64 k ∧ m = .int .u64 q ∧ q = n / 2 ^ (8 * k) ∧ wr.ownsRow w.heap.size 5 1 out (be k n).length ((be k n).map B) ∧ Chg (fun _ => False) w wr)
    (fun _ _ i _ => sz - (intOf i).toNat)
  case atStart => exact ⟨0, n, Nat.zero_le _, rfl, rfl, by simp, World.ownsRow_nil _ _ _ _, Chg.refl _ _⟩
  case round =>
    obtain ⟨k, q, hk, rfl, rfl, hq, hown, hC⟩ := hrel
    have hq' : (q : Int) ≤ 18446744073709551615 := by have := Nat.div_le_self n (2 ^ (8 * k)); omega
    have Hq := Lib.hid hq
    clear hq
    obtain ⟨ao, L, c, rfl, hL⟩ := owns_name hown
    have HS := Lib.hid (Sl.of_owns hown)
    have HO := Lib.hid hown
    have hk8 : k ≤ 8 := by omega
    clear hown
    by_cases hlt : k < sz
    · go_wp2_with (refine wpList_append_own_any rfl (.tmp 19) (.tmp 20) 24 rfl w.heap.size 5 i0 (.int .u8 0) 1 1 Try.underlying24 hi hz0 hz1 hz2 rfl (by decide) (.slice (some ⟨wr.heap.size, 0, none⟩) 1 1) 1 [.int .u8 ((q : Int) % 256)] rfl (World.ownsRow_lit wr #[.int .u8 ((q : Int) % 256)] 1 hC.size (by decide) rfl) ao L c ((be k n).map B) rfl (by simp [be_length, hL.out]) (HS.out.fr ((Chg.refl _ wr).alloc _)).src (oneCell_B _) (by rw [hL.out, be_length]; unfold maxLen; omega) (by rw [hL.out, be_length]; omega) (by have := hC.size; simp; omega) ?_; intro v2 w2 hown2 hg _ _; obtain ⟨ao2, L2, c2, rfl, hL2⟩ := owns_name hown2)
      go_roundw
      case rel =>
        refine ⟨k + 1, q / 256, by omega, by simp, by simp, ?_, ?_, (hC.tr ((Chg.refl _ wr).alloc _)).grown hg (fun j e => .inr (by simp [Value.ownBlock] at e; have := hC.size; omega))⟩
        · rw [Hq.out, Nat.div_div_eq_div_mul, show 8 * (k + 1) = 8 * k + 8 by omega, Nat.pow_add]
        · have e1 : (be (k + 1) n).map B = [.int .u8 ((q : Int) % 256)] ++ (be k n).map B := by
            rw [be_low, List.map_cons, B_ofNat, ← Hq.out, IntKind.wrap_u8]
            simp
          have e2 : (be (k + 1) n).length = 1 + L := by rw [hL.out, be_length, be_length]; omega
          rw [e1, e2]
          exact hown2
      case measure => first | (simp [intOf]; done) | (simp [intOf]; omega)
    · obtain rfl : k = sz := by omega
      have hE := numErr_q hz hn
      rw [← Hq.out] at hE
      have H8 := Lib.hid hE
      have HL := Lib.hid hL.out
      clear hE
      by_cases h0 : 0 < q
      · go_wp2
        go_ret2
        have e1 : numErr k n = 10 := by rw [H8.out, if_pos h0]
        refine ⟨.slice none 0 0, by rw [e1]; rfl, ?_, hC⟩
        rw [numBytes, e1, if_neg (by decide)]
        exact World.ownsRow_nil _ _ _ _
      · go_wp2
        go_ret2
        have e1 : numErr k n = 0 := by rw [H8.out, if_neg h0]
        refine ⟨.slice ao L c, by rw [e1]; rfl, ?_, hC⟩
        rw [numBytes, e1, if_pos rfl, Int.toNat_natCast]
        exact HO.out

theorem refNum_any (s n : Int) (w : World) (h0 : 0 ≤ n) (hn : n < 18446744073709551616) : Calls Try.prog 32 #[.int .i64 s, .int .u64 n] w (GaveBE w (numBytes s n.toNat) (numErr s n.toNat)) := by
  obtain ⟨n, rfl⟩ := Int.eq_ofNat_of_zero_le h0
  rw [Int.toNat_natCast]
  by_cases hz : szd s = true
  · obtain ⟨k, rfl⟩ := Int.eq_ofNat_of_zero_le (show 0 ≤ s by have := szd_cases hz; omega)
    exact refNum_good k n w hz (by omega)
  · have e1 : numErr s n = 2 := by unfold numErr; rw [if_neg hz]
    rw [numBytes, e1, if_neg (by decide)]
    exact refNum_bad s n w (by simpa using hz)

set_option maxHeartbeats 400000 in
theorem refInt_any (n : Int) (w : World) : Calls Try.prog 33 #[.int .i64 n] w (GaveB w (be 8 (n % 18446744073709551616).toNat)) := by
  have h := refNum_any 8 (IntKind.u64.wrap n) w (by rw [wrap_u64_mod]; omega) (by rw [wrap_u64_mod]; omega)
  rw [numErr_8, numBytes_8] at h
  go_enter Try.func33, Try.ntmps33
  go_wp2_with fail
  refine h.mono ?_
  rintro e w' ⟨v', rfl, ho, hC⟩
  go_wp2
  go_ret
  rw [wrap_u64_mod] at ho
  exact ⟨_, rfl, ho, hC⟩

/-- '[]byte(s)'. -/
theorem run_bytes_str (s : ByteArray) (hs : s.size ≤ maxLen) (w : World) : ∃ c O, (convert 9 24 (.string s)).run Try.prog w = .ok (.slice (some ⟨w.heap.size, 0, none⟩) s.size c) (w.drew.alloc O) ∧
    Sl (w.drew.alloc O) (.slice (some ⟨w.heap.size, 0, none⟩) s.size c) (s.data.toList.map B) ∧ (∀ j, j < s.size → (w.drew.alloc O).frozen? ⟨w.heap.size, j, none⟩ = false) := by
  refine ⟨_, _, run_bytes_of_string w 9 24 5 s Try.underlying9 Try.underlying24 Try.underlying5, ⟨?_, ?_⟩, ?_⟩
  · exact ⟨_, _, by rw [List.length_map, Array.length_toList]; rfl, by rw [List.length_map, Array.length_toList]; exact grownCap_ge w s.size 0 _, grownCap_le_maxLen w s.size 0 _ hs, fun h => (by cases h)⟩
  · intro j u hu
    refine ⟨w.heap.size, 0, _, by rw [List.length_map, Array.length_toList]; rfl, ?_⟩
    rw [List.getElem?_map] at hu
    have hj : j < s.data.size := by
      by_cases h : j < s.data.size
      · exact h
      · rw [List.getElem?_eq_none (by simpa using h)] at hu
        cases hu
    have hb := heap_alloc_new w.drew (Obj.cells (bytesRow s (grownCap w s.size 0 5)) 5 ((bytesRow s (grownCap w s.size 0 5)).size, (bytesRow s (grownCap w s.size 0 5)).size + 1))
    have hb' : ∀ W : World, W.heap[w.heap.size]? = some (Obj.cells (bytesRow s (grownCap w s.size 0 5)) 5 ((bytesRow s (grownCap w s.size 0 5)).size, (bytesRow s (grownCap w s.size 0 5)).size + 1)) → W.cell? ⟨w.heap.size, 0 + j, none⟩ = some u := by
      intro W hW
      unfold World.cell?
      rw [hW]
      have := bytesRow_at s (grownCap w s.size 0 5) j hj
      simp only [Nat.zero_add, Option.isSome_none]
      rw [if_neg (by decide), this]
      rw [List.getElem?_eq_getElem (by simpa using hj)] at hu
      simpa [B] using hu
    exact hb' _ hb
  · intro j hj
    have hb := heap_alloc_new w.drew (Obj.cells (bytesRow s (grownCap w s.size 0 5)) 5 ((bytesRow s (grownCap w s.size 0 5)).size, (bytesRow s (grownCap w s.size 0 5)).size + 1))
    have hb' : ∀ W : World, W.heap[w.heap.size]? = some (Obj.cells (bytesRow s (grownCap w s.size 0 5)) 5 ((bytesRow s (grownCap w s.size 0 5)).size, (bytesRow s (grownCap w s.size 0 5)).size + 1)) → W.frozen? ⟨w.heap.size, j, none⟩ = false := by
      intro W hW
      unfold World.frozen?
      rw [hW]
      have : j < (bytesRow s (grownCap w s.size 0 5)).size := by
        unfold bytesRow
        rw [Array.size_append, Array.size_map]
        show j < s.size + _
        omega
      simp
      omega
    exact hb' _ hb


def takeOk (l : List UInt8) (n : Int) : Bool := decide (n ≤ l.length)
def takeVal (l : List UInt8) (n : Int) : List UInt8 := if n ≤ l.length then l.take n.toNat else []
def GaveTake (w : World) (ok : Bool) (ys : List UInt8) (e : Ending) (w' : World) : Prop :=
  ∃ v', e = .returned (.tuple #[v', .bool ok]) ∧ w'.ownsRow w.heap.size 5 1 v' ys.length (ys.map B) ∧ Chg (fun _ => False) w w'

set_option maxHeartbeats 400000 in
theorem refWhole_any (v : Value) (xs : List UInt8) (w : World) (hS : Sl w v (xs.map B)) (hsm : xs.length ≤ 140737488355328) :
    Calls Try.prog 38 #[v] w fun e w' => e = .returned (.int .u64 (wholeM xs : Nat)) ∧ w = w' := by
  obtain ⟨ao, c, hv, g1, g2, g3⟩ := hS.form
  have HS := Lib.hid hS
  rw [List.length_map] at g1 hv
  subst hv
  clear hS g3
  go_enter Try.func38, Try.ntmps38
  go_wp2
  go_loop [3, 4] (fun n i => ∃ (k m : Nat), k ≤ xs.length ∧ i = .int .i64 k ∧ n = .int .u64 m ∧ m = wholeM (xs.take k)) (fun _ i => xs.length - (intOf i).toNat)
  case atStart => exact ⟨0, 0, Nat.zero_le _, rfl, rfl, rfl⟩
  case round =>
    obtain ⟨k, m, hk, rfl, rfl, hm⟩ := hrel
    have hlt64 := wholeM_lt (xs.take k)
    rw [← hm] at hlt64
    have HM := Lib.hid hm
    clear hm
    by_cases hlt : k < xs.length
    · obtain ⟨b, o, c', e1, hcell⟩ := HS.out.at (j := k) (by simpa using hlt)
      injection e1 with e1 e2 e3
      subst e1
      replace hcell : w.cell? ⟨b, o + k, none⟩ = some (.int .u8 (xs[k].toNat : Int)) := by rw [hcell]; simp [B]
      have hb := xs[k].toNat_lt
      obtain ⟨x, hx⟩ : ∃ x, x = xs[k].toNat := ⟨_, rfl⟩
      rw [← hx] at hcell hb
      have HX := Lib.hid hx
      clear hx e2 e3
      go_wp2
      go_round
      case rel =>
        refine ⟨k + 1, (m * 256 + x) % 18446744073709551616, by omega, by go_num, ?_, ?_⟩
        · show Value.int _ _ = Value.int _ _
          congr 1
          simp only [wrap_u64_mod]
          omega
        · rw [List.take_succ_eq_append_getElem hlt, wholeM_snoc, ← HM.out, HX.out]
      case measure => first | (simp [intOf]; done) | (simp [intOf]; omega)
    · obtain rfl : k = xs.length := by omega
      go_wp2
      go_ret
      refine ⟨?_, rfl⟩
      show Ending.returned (.int .u64 (m : Int)) = _
      rw [HM.out, List.take_length]

/-- What the reference's reading functions answer: a value, where it ends, an error. -/
def GetPost (w : World) (val : Value) (nxt : Nat) (er : Int) (e : Ending) (w' : World) : Prop :=
  e = .returned (.tuple #[val, .int .i64 nxt, .int .i64 er]) ∧ Chg (fun _ => False) w w'



end Go.Proofs.Ytpiboaoifcajdaa
