/- A note that came in. -/
import Derived.Test.YtpiboaoifcajdaaNtA
namespace Go.Proofs.Ytpiboaoifcajdaa
open Go.ChangeShapes Go.WideShapes Go.ChangeAt Go.RowKit

def NoteOk (k a b n : Int) : Prop := (-9223372036854775808 ≤ k ∧ k ≤ 9223372036854775807) ∧ (-9223372036854775808 ≤ a ∧ a ≤ 9223372036854775807) ∧ (-9223372036854775808 ≤ b ∧ b ≤ 9223372036854775807) ∧ (-9223372036854775808 ≤ n ∧ n ≤ 9223372036854775807)
theorem open_note {H : Type} {enc : TypeId × Value → H} {W : World} {base : Nat} {v : Value} {d : DataW H} {p : List MemPlace} (hv : Value.okWide Try.prog W .any base 23 v)
    (h : DataW.Trod enc Try.prog W 0 (fun _ => true) true 23 v d p) : ∃ k a b n, v = noteV k a b n ∧ NoteOk k a b n := by
  obtain ⟨cs, rfl, hsz⟩ := okWide_struct Try.underlying23 hv
  obtain ⟨fuel, hf0⟩ := h
  have hsz' : cs.toList.length = 4 := by
    have c4 : Try.prog.cellsOf 23 = 4 := by kernel_rfl
    rw [c4] at hsz
    simpa using hsz
  obtain ⟨l, hl⟩ : ∃ l, cs.toList = l := ⟨_, rfl⟩
  have hcs : cs = l.toArray := by rw [← hl]
  subst hcs
  clear hl
  rw [show (Value.agg l.toArray).cells.toList = l by simp [Value.cells]] at hf0
  obtain ⟨xs, k, hk, _, _, hxl, hf⟩ := DataW.trod_struct Try.underlying23 hf0
  match xs, hxl, l, hsz' with
  | [y0, y1, y2, y3], _, [v0, v1, v2, v3], _ =>
    have g0 := hf 0 _ rfl
    have g1 := hf 1 _ rfl
    have g2 := hf 2 _ rfl
    have g3 := hf 3 _ rfl
    have ci : Try.prog.cellsOf 3 = 1 := by kernel_rfl
    have cj : Try.prog.cellsOf 2 = 1 := by kernel_rfl
    simp [ci, cj] at g0 g1 g2 g3
    obtain ⟨q0, r0, _, w0⟩ := DataW.trod_int Try.underlying3 g0
    obtain ⟨q1, r1, _, w1⟩ := DataW.trod_int Try.underlying3 g1
    obtain ⟨q2, r2, _, w2⟩ := DataW.trod_int Try.underlying3 g2
    obtain ⟨q3, r3, _, w3⟩ := DataW.trod_int Try.underlying2 g3
    injection r0 with r0 _
    injection r1 with r1 _
    injection r2 with r2 _
    injection r3 with r3 _
    subst r0 r1 r2 r3
    exact ⟨q0, q1, q2, q3, rfl, wf_i64' w0, wf_i64' w1, wf_i64' w2, wf_i64' w3⟩
end Go.Proofs.Ytpiboaoifcajdaa
