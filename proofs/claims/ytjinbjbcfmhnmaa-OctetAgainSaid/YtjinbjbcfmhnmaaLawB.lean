/- write and read. -/
import Derived.Test.YtjinbjbcfmhnmaaLawR
namespace Go.Proofs.Ytjinbjbcfmhnmaa
open Go.RowKit

def OpD.val (x : OpD) : Value := .agg #[.int .i64 x.kind, .int .i64 x.size, .int .u64 x.n, .string x.s]

/-- Was the call written? -/
def okW (x : OpD) : Bool := if x.kind = 0 then numErr x.size x.n.toNat == 0 else if x.kind = 1 then true else if x.kind = 2 then textErr x.s == 0 else x.kind == 3

def WroteOk (w : World) (base b : Nat) (v : Value) (ok : Bool) (ys : List UInt8) (en : Ending) (w' : World) : Prop :=
  en = .returned (.bool ok) ∧ ∃ v', Wrote w w' base b v v' ys

theorem Wrote.pre {w wa w' : World} {base b : Nat} {v v' : Value} {ys : List UInt8} (h : Wrote wa w' base b v v' ys) (hC : Chg (fun _ => False) w wa) : Wrote w w' base b v v' ys :=
  ⟨h.wtr, hC.trans h.chg (fun _ _ h => h.elim) (fun _ _ h => h), fun k e => (h.own k e).elim .inl fun e => .inr (by have := hC.size; omega)⟩

set_option maxRecDepth 100000 in
set_option maxHeartbeats 1000000 in
theorem write_any (x : OpD) (b base : Nat) (v : Value) (xs : List UInt8) (w : World) (hn1 : 0 ≤ x.n) (hn2 : x.n < 18446744073709551616) (hs : x.s.size ≤ 100000) (hW : Wtr w base b v xs) (hlen : xs.length + 200000 ≤ 140737488355328) (hbase : base ≤ w.heap.size) :
    Calls Try.prog 30 #[.pointer (some ⟨b, 0, none⟩), x.val] w (WroteOk w base b v (okW x) (xs ++ opBytes x)) := by
  obtain ⟨kind, size, n, s⟩ := x
  dsimp only at hn1 hn2 hs
  have hC0 : Chg (fun _ => False) w (w.alloc (.cells #[.int .i64 kind, .int .i64 size, .int .u64 n, .string s] 34)) := (Chg.refl _ w).alloc _
  have hW0 := hW.fr hC0
  have hb0 : base ≤ (w.alloc (.cells #[.int .i64 kind, .int .i64 size, .int .u64 n, .string s] 34)).heap.size := Nat.le_trans hbase hC0.size
  have hsm : s.size ≤ maxLen := by unfold maxLen; omega
  unfold OpD.val
  by_cases hk0 : kind = 0
  · subst hk0
    have hR := num_any size n _ _ v xs _ hn1 hn2 hW0 (by omega) hb0
    rw [show okW ⟨0, size, n, s⟩ = (numErr size n.toNat == 0) from rfl, show opBytes ⟨0, size, n, s⟩ = numBytes size n.toNat from rfl]
    generalize numErr size n.toNat = E at *
    clear hsm
    go_enter Try.func30, Try.ntmps30
    go_wp2_with fail
    refine hR.mono ?_
    clear hR
    rintro e w1 ⟨rfl, v1, hR⟩
    go_wp2
    go_ret
    exact ⟨rfl, v1, hR.pre hC0⟩
  · by_cases hk1 : kind = 1
    · subst hk1
      have hR := int_any (wrap64 n) _ _ v xs _ hW0 (by omega) hb0
      rw [show (wrap64 n % 18446744073709551616).toNat = n.toNat by unfold wrap64; omega] at hR
      rw [show okW ⟨1, size, n, s⟩ = true from rfl, show opBytes ⟨1, size, n, s⟩ = be 8 n.toNat from rfl]
      clear hsm hk0
      go_enter Try.func30, Try.ntmps30
      go_wp2_with fail
      refine hR.mono ?_
      clear hR
      rintro e w1 ⟨rfl, v1, hR⟩
      go_wp2
      go_ret
      exact ⟨rfl, v1, hR.pre hC0⟩
    · by_cases hk2 : kind = 2
      · subst hk2
        have hR := text_any s _ _ v xs _ hsm hW0 (by omega) hb0
        rw [show okW ⟨2, size, n, s⟩ = (textErr s == 0) from rfl, show opBytes ⟨2, size, n, s⟩ = textBytes s from rfl]
        generalize textErr s = E at *
        clear hsm hk0 hk1
        go_enter Try.func30, Try.ntmps30
        go_wp2_with fail
        refine hR.mono ?_
        clear hR
        rintro e w1 ⟨rfl, v1, hR⟩
        go_wp2
        go_ret
        exact ⟨rfl, v1, hR.pre hC0⟩
      · by_cases hk3 : kind = 3
        · subst hk3
          obtain ⟨ca, Oa, hca, hSa, _⟩ := run_bytes_str s hsm (w.alloc (.cells #[.int .i64 3, .int .i64 size, .int .u64 n, .string s] 34))
          have hC1 : Chg (fun _ => False) (w.alloc (.cells #[.int .i64 3, .int .i64 size, .int .u64 n, .string s] 34)) ((w.alloc (.cells #[.int .i64 3, .int .i64 size, .int .u64 n, .string s] 34)).drew.alloc Oa) := ((Chg.refl _ _).drew).alloc _
          have hR := raw_any _ s.data.toList _ _ v xs _ hSa (hW0.fr hC1) (by simp; omega) (Nat.le_trans hb0 hC1.size)
          rw [World.size_alloc] at hca hR
          have hC2 := hC0.tr hC1
          rw [show okW ⟨3, size, n, s⟩ = true from rfl, show opBytes ⟨3, size, n, s⟩ = s.data.toList from rfl]
          clear hSa hsm hk0 hk1 hk2 hC1 hC0 hW0 hb0
          go_enter Try.func30, Try.ntmps30
          go_wp2_with fail
          refine hR.mono ?_
          clear hR
          rintro e w1 ⟨rfl, v1, hR⟩
          go_wp2
          go_ret
          exact ⟨rfl, v1, hR.pre hC2⟩
        · have q0 : (kind == 0) = false := by simpa using hk0
          have q1 : (kind == 1) = false := by simpa using hk1
          have q2 : (kind == 2) = false := by simpa using hk2
          have q3 : (kind == 3) = false := by simpa using hk3
          have e1 : okW ⟨kind, size, n, s⟩ = false := by unfold okW; rw [if_neg hk0, if_neg hk1, if_neg hk2]; exact q3
          have e2 : opBytes ⟨kind, size, n, s⟩ = [] := by unfold opBytes; rw [if_neg hk0, if_neg hk1, if_neg hk2, if_neg hk3]
          rw [e1, e2, List.append_nil]
          clear e1 e2 hk0 hk1 hk2 hk3 hsm
          go_enter Try.func30, Try.ntmps30
          go_wp2
          go_ret
          exact ⟨rfl, v, (Wrote.refl hW0).pre hC0⟩

/-- Is what is read the call, and where does that end? -/
def okR (l : List UInt8) (x : OpD) : Bool :=
  if x.kind = 0 then rErr l x.size == 0 && ((rVal l x.size : Int) == x.n) else if x.kind = 1 then rErr l 8 == 0 && (wrap64 (rVal l 8 : Nat) == wrap64 x.n)
  else if x.kind = 2 then txtErr l == 0 && txtVal l == x.s.data.toList else rawErr l x.s.size == 0 && rawVal l x.s.size == x.s.data.toList
def posR (l : List UInt8) (x : OpD) (pos : Nat) : Nat :=
  if x.kind = 0 then rPos l x.size pos else if x.kind = 1 then rPos l 8 pos else if x.kind = 2 then txtPos l pos else rawPos l x.s.size pos

def ReadOk (w : World) (b : Nat) (v : Value) (xs : List UInt8) (ok : Bool) (pos' : Nat) (e : Ending) (w' : World) : Prop :=
  e = .returned (.bool ok) ∧ Rdr w' b v xs pos' ∧ Chg (fun j => j = b) w w'

set_option maxRecDepth 100000 in
set_option maxHeartbeats 1000000 in
theorem readOp_any (x : OpD) (b : Nat) (v : Value) (xs : List UInt8) (pos : Nat) (w : World) (hs : x.s.size ≤ 100000) (hR : Rdr w b v xs pos) :
    Calls Try.prog 31 #[.pointer (some ⟨b, 0, none⟩), x.val] w (ReadOk w b v xs (okR (xs.drop pos) x) (posR (xs.drop pos) x pos)) := by
  obtain ⟨kind, size, n, s⟩ := x
  dsimp only at hs
  have hC0 : Chg (fun _ => False) w (w.alloc (.cells #[.int .i64 kind, .int .i64 size, .int .u64 n, .string s] 34)) := (Chg.refl _ w).alloc _
  have hR0 := hR.fr hC0
  have hneS : ¬ w.heap.size = b := fun e => by have := cell_lt hR.c0; simp at this; omega
  unfold OpD.val
  by_cases hk0 : kind = 0
  · subst hk0
    have hA := rnum_any size b v xs pos _ hR0
    rw [show okR (xs.drop pos) ⟨0, size, n, s⟩ = (rErr (xs.drop pos) size == 0 && ((rVal (xs.drop pos) size : Int) == n)) from rfl, show posR (xs.drop pos) ⟨0, size, n, s⟩ pos = rPos (xs.drop pos) size pos from rfl]
    generalize rErr (xs.drop pos) size = E at *
    generalize rVal (xs.drop pos) size = q at *
    generalize rPos (xs.drop pos) size pos = p at *
    go_enter Try.func31, Try.ntmps31
    go_wp2_with fail
    refine hA.mono ?_
    clear hA
    rintro e w1 ⟨rfl, hR1, hC1⟩
    have d2 := hC1.cell (new_cell w #[.int .i64 0, .int .i64 size, .int .u64 n, .string s] 34 (i := 2) rfl) hneS
    by_cases hE : E = 0
    · subst hE
      go_wp2
      go_ret
      exact ⟨by simp, hR1, hC0.any.same hC1⟩
    · have g1 : (E == 0) = false := by simpa using hE
      clear hE
      go_wp2
      go_ret
      exact ⟨by rw [g1]; rfl, hR1, hC0.any.same hC1⟩
  · by_cases hk1 : kind = 1
    · subst hk1
      have hA := rint_any b v xs pos _ hR0
      rw [wrapEq] at hA
      rw [show okR (xs.drop pos) ⟨1, size, n, s⟩ = (rErr (xs.drop pos) 8 == 0 && (wrap64 (rVal (xs.drop pos) 8 : Nat) == wrap64 n)) from rfl, show posR (xs.drop pos) ⟨1, size, n, s⟩ pos = rPos (xs.drop pos) 8 pos from rfl]
      generalize rErr (xs.drop pos) 8 = E at *
      generalize rVal (xs.drop pos) 8 = q at *
      generalize rPos (xs.drop pos) 8 pos = p at *
      clear hk0
      go_enter Try.func31, Try.ntmps31
      go_wp2_with fail
      refine hA.mono ?_
      clear hA
      rintro e w1 ⟨rfl, hR1, hC1⟩
      have d2 := hC1.cell (new_cell w #[.int .i64 1, .int .i64 size, .int .u64 n, .string s] 34 (i := 2) rfl) hneS
      by_cases hE : E = 0
      · subst hE
        go_wp2
        go_ret
        exact ⟨by simp, hR1, hC0.any.same hC1⟩
      · have g1 : (E == 0) = false := by simpa using hE
        clear hE
        go_wp2
        go_ret
        exact ⟨by rw [g1]; rfl, hR1, hC0.any.same hC1⟩
    · by_cases hk2 : kind = 2
      · subst hk2
        have hA := rtext_any b v xs pos _ hR0
        rw [show okR (xs.drop pos) ⟨2, size, n, s⟩ = (txtErr (xs.drop pos) == 0 && txtVal (xs.drop pos) == s.data.toList) from rfl, show posR (xs.drop pos) ⟨2, size, n, s⟩ pos = txtPos (xs.drop pos) pos from rfl]
        obtain ⟨S1, hS1, q1, q2⟩ := str_name (txtVal (xs.drop pos))
        rw [hS1] at hA
        rw [← q1, show s.data.toList = s.toList from (ByteArray.toList_eq s).symm]
        clear hS1 q1 q2
        generalize txtErr (xs.drop pos) = E at *
        generalize txtPos (xs.drop pos) pos = p at *
        clear hk0 hk1
        go_enter Try.func31, Try.ntmps31
        go_wp2_with fail
        refine hA.mono ?_
        clear hA
        rintro e w1 ⟨rfl, hR1, hC1⟩
        have d3 := hC1.cell (new_cell w #[.int .i64 2, .int .i64 size, .int .u64 n, .string s] 34 (i := 3) rfl) hneS
        by_cases hE : E = 0
        · subst hE
          go_wp2
          go_ret
          exact ⟨by simp, hR1, hC0.any.same hC1⟩
        · have g1 : (E == 0) = false := by simpa using hE
          clear hE
          go_wp2
          go_ret
          exact ⟨by rw [g1]; rfl, hR1, hC0.any.same hC1⟩
      · have hA := rraw_any s.size b v xs pos _ hR0
        have q0 : (kind == 0) = false := by simpa using hk0
        have q1 : (kind == 1) = false := by simpa using hk1
        have q2 : (kind == 2) = false := by simpa using hk2
        have e1 : okR (xs.drop pos) ⟨kind, size, n, s⟩ = (rawErr (xs.drop pos) s.size == 0 && rawVal (xs.drop pos) s.size == s.data.toList) := by unfold okR; rw [if_neg hk0, if_neg hk1, if_neg hk2]
        have e2 : posR (xs.drop pos) ⟨kind, size, n, s⟩ pos = rawPos (xs.drop pos) s.size pos := by unfold posR; rw [if_neg hk0, if_neg hk1, if_neg hk2]
        rw [e1, e2]
        obtain ⟨S1, hS1, r1, r2⟩ := str_name (rawVal (xs.drop pos) s.size)
        rw [← r1, show s.data.toList = s.toList from (ByteArray.toList_eq s).symm]
        have HS1 := Lib.hid hS1
        clear hS1 r1 r2 e1 e2 hk0 hk1 hk2
        generalize rawErr (xs.drop pos) s.size = E at *
        generalize rawPos (xs.drop pos) s.size pos = p at *
        generalize rawVal (xs.drop pos) s.size = ys at *
        go_enter Try.func31, Try.ntmps31
        go_wp2_with fail
        refine hA.mono ?_
        clear hA
        rintro e w1 ⟨u1, rfl, ho1, hR1, hC1⟩
        have d3 := hC1.cell (new_cell w #[.int .i64 kind, .int .i64 size, .int .u64 n, .string s] 34 (i := 3) rfl) hneS
        have hcv := conv_sl (Sl.of_owns ho1)
        rw [HS1.out] at hcv
        by_cases hE : E = 0
        · subst hE
          go_wp2
          go_ret
          exact ⟨by simp, hR1, hC0.any.same hC1⟩
        · have g1 : (E == 0) = false := by simpa using hE
          clear hE
          go_wp2
          go_ret
          exact ⟨by rw [g1]; rfl, hR1, hC0.any.same hC1⟩
end Go.Proofs.Ytjinbjbcfmhnmaa
