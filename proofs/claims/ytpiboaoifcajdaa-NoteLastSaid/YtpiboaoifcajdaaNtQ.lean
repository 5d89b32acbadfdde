/- NoteLast's walk, whole. -/
import Derived.Test.YtpiboaoifcajdaaNtJ
namespace Go.Proofs.Ytpiboaoifcajdaa
open Go.RowKit Go.Shelf

set_option maxRecDepth 100000 in
set_option maxHeartbeats 1000000 in
theorem noteLast_walk (s : Int) (v : Value) (ps : List (List UInt8)) (xk xa xb xn yk ya yb yn : Int) (W : World) (_h : (Lit.int .i64 s).wf = true) (hP : Pay W v ps) (hx : NoteOk xk xa xb xn) (hy : NoteOk yk ya yb yn) : Calls Try.prog 5 #[.int .i64 s, v, noteV xk xa xb xn, noteV yk ya yb yn] W (True_ W) := by
  unfold noteV
  have hCx := ((Chg.refl (fun _ => False) W).alloc (.cells #[.int .i64 xk, .int .i64 xa, .int .i64 xb, .int .i64 xn] 23)).alloc (.cells #[.int .i64 yk, .int .i64 ya, .int .i64 yb, .int .i64 yn] 23)
  cases hg : greatB ps with
  | true =>
    obtain ⟨vs, hv1, hv2, hv3⟩ := id hP
    obtain ⟨ao, c, rfl, _⟩ := hv1.form
    have HP := Lib.hid hP
    have HG := Lib.hid hg
    clear hP hg hv1 hv2 hv3
    go_enter Try.func5, Try.ntmps5
    go_wp2_with fail
    refine (alive9_any _).mono ?_
    rintro e w1 ⟨rfl, hC1⟩
    have hgr := great9_any _ ps w1 (HP.out.fr (hCx.tr hC1))
    rw [HG.out] at hgr
    go_wp2_with (go_at_call 14; (with_reducible refine hgr.mono ?_); rintro e w1' ⟨rfl, rfl⟩)
    go_ret
    exact ⟨rfl, hCx.tr hC1⟩
  | false =>
    by_cases h100 : ps.length ≤ 100
    · exact last_main s v ps xk xa xb xn yk ya yb yn hx hy W hP hg h100
    · obtain ⟨vs, hv1, hv2, hv3⟩ := id hP
      obtain ⟨ao, c, rfl, _⟩ := hv1.form
      have HP := Lib.hid hP
      have HG := Lib.hid hg
      have h1 : (100 : Int) < (vs.length : Int) := by omega
      have h2 : decide ((100 : Int) < (vs.length : Int)) = true := decide_eq_true h1
      clear hP hg hv1 hv2 hv3 h100
      go_enter Try.func5, Try.ntmps5
      go_wp2_with fail
      refine (alive9_any _).mono ?_
      rintro e w1 ⟨rfl, hC1⟩
      have hgr := great9_any _ ps w1 (HP.out.fr (hCx.tr hC1))
      rw [HG.out] at hgr
      go_wp2_with (go_at_call 14; (with_reducible refine hgr.mono ?_); rintro e w1' ⟨rfl, rfl⟩)
      go_ret
      exact ⟨rfl, hCx.tr hC1⟩
end Go.Proofs.Ytpiboaoifcajdaa
