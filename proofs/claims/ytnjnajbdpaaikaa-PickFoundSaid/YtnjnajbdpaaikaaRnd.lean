/- A region that draws its order, in a round of a range over a function: its operations may call functions. -/
import Derived.Test.YtnjnajbdpaaikaaCalm
namespace Go.Proofs.Ytnjnajbdpaaikaa
open Go.RowKit

def noDefer : Op → Bool
  | .defer _ => false
  | _ => true
theorem round_op {y n : Nat} {P : Program} {o : Oper} (hd : noDefer o.op = true) {a : Act} {w : World} {K R : Act → World → Prop} {Q : Exit → Act → World → Prop} (h : o.wp P a w K (OnlyN R)) : o.wpIn (Fence.wide.inRound y) n P a w K Q := by
  refine ⟨fun _ _ => trivial, ?_⟩
  rw [Oper.semAt_plain (Fence.wide.inRound y) _ _ (fun c e => by rw [e] at hd; exact absurd hd (by simp [noDefer]))]
  unfold Oper.wp at h
  revert h
  cases (execOp a.eval o).run P w with
  | ok x w' =>
    cases x with
    | value v => exact id
    | skip => exact id
    | defer d => exact id
    | enter f args =>
      intro h
      refine ⟨fun e => (by cases e), CallsIn.inRound y (callsIn_wide.2 (Calls.mono h ?_))⟩
      rintro (v | chain | _) w2 h2
      · exact h2
      · exact h2.elim
      · obtain ⟨a2, w3, h3⟩ := h2
        exact h3.elim
    | row row args =>
      intro h
      show _ ∧ RowsIn (Fence.wide.inRound y) (n - 1) P row args w' _
      refine ⟨fun e => (by cases e), ?_⟩
      intro c cs _
      obtain ⟨v, w2, r, s⟩ := (show Rows P row args w' _ from h) c cs
      exact ⟨v, w2, r, stepsIn_wide.2 s⟩
    | _ => exact fun h => h.elim
  | halt x w' =>
    cases x <;> exact fun h => h.elim
theorem anyIn_round {y n : Nat} {P : Program} {md : Region.Mode} {ops : Array Oper} {Q : Exit → Act → World → Prop} (hc : ∀ (i : Nat) (o : Oper), ops[i]? = some o → noDefer o.op = true) :
    ∀ (fuel : Nat) (listed : Array Bool) (a : Act) (w : World), wpAny P md ops (OnlyN (Q .normal)) fuel listed a w → wpAnyIn (Fence.wide.inRound y) n P md ops Q fuel listed a w
  | 0, _, _, _, h => ⟨h.1, h.2⟩
  | fuel + 1, listed, a, w, h => by
    refine ⟨h.1, fun i hi => ?_⟩
    have hh := h.2 i hi
    unfold wpOp at hh
    unfold wpOpIn
    cases ho : ops[i]? with
    | none =>
      rw [ho] at hh
      exact anyIn_round hc fuel _ _ _ hh
    | some o =>
      rw [ho] at hh
      simp only at hh ⊢
      split
      · rename_i hw
        rw [if_pos hw] at hh
        rcases hh with hh | ⟨_, a', w', hl⟩
        · exact Oper.wpIn_mono (fun a w => anyIn_round hc fuel _ a w) (round_op (hc i o ho) hh)
        · exact hl.elim
      · rename_i hw
        rw [if_neg hw] at hh
        exact ⟨fun _ _ => trivial, anyIn_round hc fuel _ _ _ hh⟩
theorem in_round_held {y n : Nat} {P : Program} {S : World → Prop} {id : Nat} {ops : Array Oper} {Q : Exit → Act → World → Prop} {a : Act} {w : World} (hm : P.follows .mixedOrders = true) (hc : ops.all (fun o => noDefer o.op) = true) (hS : S w.drew)
    (h : S w.drew → wpAnyH P .any ops (OnlyN (Q .normal)) S ops.size (Array.replicate ops.size false) a w.drew) : (Code.region id ops true).wpIn (Fence.wide.inRound y) n P Q a w :=
  wpIn_region_any hm (anyIn_round (fun i o ho => by
    have := Array.all_eq_true.1 hc i (Array.getElem?_eq_some_iff.1 ho).1
    rw [(Array.getElem?_eq_some_iff.1 ho).2] at this
    exact this) _ _ _ _ (wpAny_of_held _ _ _ _ (h hS)))
theorem onlyN_end {R : Act → World → Prop} {a : Act} {w : World} (h : R a w) : OnlyN R .normal a w := h
end Go.Proofs.Ytnjnajbdpaaikaa
