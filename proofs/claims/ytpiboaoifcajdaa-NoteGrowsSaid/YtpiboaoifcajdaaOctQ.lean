/- The reader's calls that turn it. -/
import Derived.Test.YtpiboaoifcajdaaOctN
import Derived.Deep.DeepCutAuto
namespace Go.Proofs.Ytpiboaoifcajdaa
open Go.RowKit

/-- What the next number is, and whether there is one. -/
def rErr (l : List UInt8) (s : Int) : Int := if szd s then (if s.toNat ≤ l.length then 0 else 10) else 2
def rVal (l : List UInt8) (s : Int) : Nat := if rErr l s = 0 then wholeM (l.take s.toNat) else 0
def rPos (l : List UInt8) (s : Int) (pos : Nat) : Nat := if rErr l s = 0 then pos + s.toNat else pos

/-- A call that reads: its answer, its error, and the reader behind it. -/
def ReadPost (w : World) (b : Nat) (v : Value) (xs : List UInt8) (val : Value) (er : Int) (pos' : Nat) (e : Ending) (w' : World) : Prop :=
  e = .returned (.tuple #[val, .int .i64 er]) ∧ Rdr w' b v xs pos' ∧ Chg (fun j => j = b) w w'

theorem Rdr.next' {w : World} {b : Nat} {v : Value} {xs : List UInt8} {pos : Nat} (h : Rdr w b v xs pos) {q : Nat} {x : Int} (hx : x = q) (hq : q ≤ xs.length) :
    Rdr (w.setCell ⟨b, 1, none⟩ (.int .i64 x)) b v xs q ∧ Chg (fun j => j = b) w (w.setCell ⟨b, 1, none⟩ (.int .i64 x)) := by
  subst hx
  exact h.next hq

theorem owns_mono {w : World} {base base' : Nat} {e : TypeId} {size : Nat} {v : Value} {n : Nat} {xs : List Value} (h : w.ownsRow base e size v n xs) (hb : base' ≤ base) : w.ownsRow base' e size v n xs := by
  refine ⟨h.1, ?_⟩
  rcases h.2 with h | ⟨g, cap, cur, e1, e2, e3⟩
  · exact .inl h
  · exact .inr ⟨g, cap, cur, e1, Nat.le_trans hb e2, e3⟩
theorem Chg.any {S : Nat → Prop} {w w' : World} (h : Chg (fun _ => False) w w') : Chg S w w' := h.mono (fun _ _ h => h.elim)
theorem Chg.same {S : Nat → Prop} {a b c : World} (h : Chg S a b) (k : Chg S b c) : Chg S a c := h.trans k (fun _ _ h => h) (fun _ _ h => h)

set_option maxHeartbeats 400000 in
theorem rnum_bad (s : Int) (b : Nat) (v : Value) (xs : List UInt8) (pos : Nat) (w : World) (hz : szd s = false) (hR : Rdr w b v xs pos) :
    Calls Try.prog 35 #[.pointer (some ⟨b, 0, none⟩), .int .i64 s] w (ReadPost w b v xs (.int .u64 0) 2 pos) := by
  go_enter Try.func35, Try.ntmps35
  go_wp2_with (first | (go_at_call 43; refine (sized_any _ _).mono ?_; rintro e w' ⟨rfl, rfl⟩) | (go_at_call 46; refine (none_any _ _ _ _ _ hR).mono ?_; rintro e w' ⟨rfl, rfl⟩))
  go_ret2
  exact ⟨rfl, hR, Chg.refl _ _⟩

set_option maxHeartbeats 400000 in
theorem rnum_good (sz b : Nat) (v : Value) (xs : List UInt8) (pos : Nat) (w : World) (hz : szd sz = true) (hR : Rdr w b v xs pos) :
    Calls Try.prog 35 #[.pointer (some ⟨b, 0, none⟩), .int .i64 sz] w (ReadPost w b v xs (.int .u64 (rVal (xs.drop pos) sz)) (rErr (xs.drop pos) sz) (rPos (xs.drop pos) sz pos)) := by
  have hc := szd_cases hz
  have hn := number_any sz b v xs pos w (by omega) (by omega) hR
  have hle := hR.le
  have hsm := hR.small
  by_cases h : sz ≤ (xs.drop pos).length
  · have e1 : rErr (xs.drop pos) sz = 0 := by unfold rErr; rw [if_pos hz, Int.toNat_natCast, if_pos h]
    have e2 : rVal (xs.drop pos) sz = wholeM ((xs.drop pos).take sz) := by unfold rVal; rw [if_pos e1, Int.toNat_natCast]
    have e3 : rPos (xs.drop pos) sz pos = pos + sz := by unfold rPos; rw [if_pos e1, Int.toNat_natCast]
    have hq : pos + sz ≤ xs.length := by rw [List.length_drop] at h; omega
    rw [e1, e2, e3]
    clear e1 e2 e3 hc
    go_enter Try.func35, Try.ntmps35
    go_wp2_with (first | (go_at_call 43; refine (sized_any _ _).mono ?_; rintro e w' ⟨rfl, rfl⟩) | (go_at_call 46; refine (none_any _ _ _ _ _ hR).mono ?_; rintro e w' ⟨rfl, rfl⟩))
    refine hn.mono ?_
    clear hn
    rintro e w1 ⟨n, is, rfl, hlt, his, hw, hC⟩
    obtain rfl : is = true := by rw [his]; exact decide_eq_true h
    have HN := Lib.hid (hw rfl)
    have hR1 := hR.fr hC
    have h1 := hR1.c1
    have hf := hR1.f1
    clear his hw h
    go_wp2
    go_ret2
    have R := hR1.next' (x := (pos : Int) + sz) (q := pos + sz) (by omega) hq
    refine ⟨?_, R.1, hC.any.same R.2⟩
    show Ending.returned (.tuple #[.int .u64 n, .int .i64 0]) = _
    rw [HN.out]
  · have e1 : rErr (xs.drop pos) sz = 10 := by unfold rErr; rw [if_pos hz, Int.toNat_natCast, if_neg h]
    have e2 : rVal (xs.drop pos) sz = 0 := by unfold rVal; rw [e1]; rfl
    have e3 : rPos (xs.drop pos) sz pos = pos := by unfold rPos; rw [e1]; rfl
    rw [e1, e2, e3]
    clear e1 e2 e3 hc
    go_enter Try.func35, Try.ntmps35
    go_wp2_with (first | (go_at_call 43; refine (sized_any _ _).mono ?_; rintro e w' ⟨rfl, rfl⟩) | (go_at_call 46; refine (none_any _ _ _ _ _ hR).mono ?_; rintro e w' ⟨rfl, rfl⟩))
    refine hn.mono ?_
    clear hn
    rintro e w1 ⟨n, is, rfl, hlt, his, hw, hC⟩
    obtain rfl : is = false := by rw [his]; exact decide_eq_false h
    clear his hw h
    go_wp2
    go_ret2
    exact ⟨rfl, hR.fr hC, hC.any⟩

theorem rnum_any (s : Int) (b : Nat) (v : Value) (xs : List UInt8) (pos : Nat) (w : World) (hR : Rdr w b v xs pos) :
    Calls Try.prog 35 #[.pointer (some ⟨b, 0, none⟩), .int .i64 s] w (ReadPost w b v xs (.int .u64 (rVal (xs.drop pos) s)) (rErr (xs.drop pos) s) (rPos (xs.drop pos) s pos)) := by
  by_cases hz : szd s = true
  · have hs := szd_cases hz
    obtain ⟨k, rfl⟩ := Int.eq_ofNat_of_zero_le (show 0 ≤ s by omega)
    exact rnum_good k b v xs pos w hz hR
  · have e1 : rErr (xs.drop pos) s = 2 := by unfold rErr; rw [if_neg hz]
    have e2 : rVal (xs.drop pos) s = 0 := by unfold rVal; rw [e1]; rfl
    have e3 : rPos (xs.drop pos) s pos = pos := by unfold rPos; rw [e1]; rfl
    rw [e1, e2, e3]
    exact rnum_bad s b v xs pos w (by simpa using hz) hR

set_option maxHeartbeats 400000 in
theorem rint_any (b : Nat) (v : Value) (xs : List UInt8) (pos : Nat) (w : World) (hR : Rdr w b v xs pos) :
    Calls Try.prog 36 #[.pointer (some ⟨b, 0, none⟩)] w (ReadPost w b v xs (.int .i64 (IntKind.i64.wrap (rVal (xs.drop pos) 8 : Nat))) (rErr (xs.drop pos) 8) (rPos (xs.drop pos) 8 pos)) := by
  have h := rnum_any 8 b v xs pos w hR
  go_enter Try.func36, Try.ntmps36
  go_wp2_with fail
  refine h.mono ?_
  rintro e w1 ⟨rfl, h1, h2⟩
  go_wp2
  go_ret2
  exact ⟨by simp [IntKind.wrap_i64, wrap64], h1, h2⟩

/-- A call that reads bytes: they are new memory. -/
def RawPost (w : World) (b : Nat) (v : Value) (xs : List UInt8) (ys : List UInt8) (er : Int) (pos' : Nat) (e : Ending) (w' : World) : Prop :=
  ∃ u, e = .returned (.tuple #[u, .int .i64 er]) ∧ w'.ownsRow w.heap.size 5 1 u ys.length (ys.map B) ∧ Rdr w' b v xs pos' ∧ Chg (fun j => j = b) w w'

def rawErr (l : List UInt8) (n : Int) : Int := if n < 0 then 2 else if (l.length : Int) < n then 10 else 0
def rawVal (l : List UInt8) (n : Int) : List UInt8 := if rawErr l n = 0 then l.take n.toNat else []
def rawPos (l : List UInt8) (n : Int) (pos : Nat) : Nat := if rawErr l n = 0 then pos + n.toNat else pos


/-- The next text. -/
def txtErr (l : List UInt8) : Int := if 2 ≤ l.length ∧ wholeM (l.take 2) ≤ l.length - 2 then 0 else 10
def txtVal (l : List UInt8) : List UInt8 := if txtErr l = 0 then (l.drop 2).take (wholeM (l.take 2)) else []
def txtPos (l : List UInt8) (pos : Nat) : Nat := if txtErr l = 0 then pos + 2 + wholeM (l.take 2) else pos

theorem wholeM_two (l : List UInt8) (h : 2 ≤ l.length) : wholeM (l.take 2) < 65536 := by
  match l, h with
  | a :: b :: r, _ =>
    have := a.toNat_lt
    have := b.toNat_lt
    simp [wholeM]
    omega

end Go.Proofs.Ytpiboaoifcajdaa
