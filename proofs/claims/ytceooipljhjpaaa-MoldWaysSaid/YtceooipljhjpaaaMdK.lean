/- mold: what take and drop keep of an axis. -/
import Derived.Test.YtceooipljhjpaaaMdG
namespace Go.Proofs.Ytceooipljhjpaaa
open Go.RowKit Go.Shelf

/-- What an axis keeps: how many there are, how many come out, how many lie ahead. -/
structure Spn where
  h : Int
  l : Int
  a : Int
def spV (x : Spn) : Value := .agg #[.int .i64 x.h, .int .i64 x.l, .int .i64 x.a]
def takeF (h n : Int) : Spn := if n < 0 ∧ -4096 ≤ n then ⟨h, -n, h + n⟩ else ⟨h, n, 0⟩
def dropF (h n : Int) : Spn := if n < 0 then ⟨h, max 0 (h + n), 0⟩ else ⟨h, max 0 (h - n), min h n⟩
def GaveSp (w : World) (x : Spn) (e : Ending) (w' : World) : Prop := e = .returned (spV x) ∧ Chg (fun _ => False) w w'
theorem sp_eq {h l a h' l' a' : Int} (e1 : h = h') (e2 : l = l') (e3 : a = a') : Ending.returned (.agg #[.int .i64 h, .int .i64 l, .int .i64 a]) = .returned (spV ⟨h', l', a'⟩) := by subst e1 e2 e3; rfl
theorem taken_any (m n : Int) (w : World) (hh : 0 ≤ m ∧ m ≤ 4096) (hn : -4096 ≤ n ∧ n ≤ 4097) : Calls Try.prog 65 #[.int .i64 m, .int .i64 n] w (GaveSp w (takeF m n)) := by
  by_cases h0 : n < 0
  · have d1 : decide (n < 0) = true := decide_eq_true h0
    have d2 : decide ((-4096 : Int) ≤ n) = true := decide_eq_true hn.1
    have w1 : IntKind.i64.wrap (-n) = -n := IntWalk.i64_in _ (by omega)
    have w2 : IntKind.i64.wrap (m + n) = m + n := IntWalk.i64_in _ (by omega)
    have HR := Lib.hid (show takeF m n = ⟨m, -n, m + n⟩ from if_pos ⟨h0, hn.1⟩)
    clear h0 hh hn
    go_enter Try.func65, Try.ntmps65
    go_wp2
    simp [bodyPost, results, Try.results65, go_sem]
    rw [HR.out]
    exact ⟨rfl, (Chg.refl _ _).alloc _⟩
  · have d1 : decide (n < 0) = false := decide_eq_false h0
    have HR := Lib.hid (show takeF m n = ⟨m, n, 0⟩ from if_neg (fun q => h0 q.1))
    clear h0 hh hn
    go_enter Try.func65, Try.ntmps65
    go_wp2
    simp [bodyPost, results, Try.results65, go_sem]
    rw [HR.out]
    exact ⟨rfl, (Chg.refl _ _).alloc _⟩
theorem dropped_any (m n : Int) (w : World) (hh : 0 ≤ m ∧ m ≤ 4096) (hn : -4096 ≤ n ∧ n ≤ 4097) : Calls Try.prog 67 #[.int .i64 m, .int .i64 n] w (GaveSp w (dropF m n)) := by
  by_cases h0 : n < 0
  · have d1 : decide (n < 0) = true := decide_eq_true h0
    have w2 : IntKind.i64.wrap (m + n) = m + n := IntWalk.i64_in _ (by omega)
    have HR := Lib.hid (show dropF m n = ⟨m, max 0 (m + n), 0⟩ from if_pos h0)
    clear h0 hh hn
    go_enter Try.func67, Try.ntmps67
    go_wp2
    all_goals
      simp [bodyPost, results, Try.results67, go_sem]
      rw [HR.out]
      exact ⟨sp_eq (by omega) (by omega) (by omega), (Chg.refl _ _).alloc _⟩
  · have d1 : decide (n < 0) = false := decide_eq_false h0
    have w2 : IntKind.i64.wrap (m - n) = m - n := IntWalk.i64_in _ (by omega)
    have HR := Lib.hid (show dropF m n = ⟨m, max 0 (m - n), min m n⟩ from if_neg h0)
    clear h0 hh hn
    go_enter Try.func67, Try.ntmps67
    go_wp2
    all_goals
      simp [bodyPost, results, Try.results67, go_sem]
      rw [HR.out]
      exact ⟨sp_eq (by omega) (by omega) (by omega), (Chg.refl _ _).alloc _⟩
end Go.Proofs.Ytceooipljhjpaaa
