/- A region that draws its order, in a round of a range over a function: its operations make no call. -/
import Derived.Test.YtnjnajbdpaaikaaRegionH
import Derived.Test.YtnjnajbdpaaikaaIn
namespace Go.Proofs.Ytnjnajbdpaaikaa
open Go.RowKit

def calmOp : Op → Bool
  | .move _ | .assign _ | .alloc _ | .build _ _ | .buildSlice _ _ _ | .load _ _ | .store _ _ _ | .fieldAddr _ _ _ | .mapUpdate _ _ _ _ | .nilCheck _ => true
  | .call c => match c.callee with
    | .builtin .append => true
    | _ => false
  | _ => false
/-- What such an operation comes to: a value, nothing, or a halt. -/
def CalmRes : Result Next → Prop
  | .ok (.value _) _ => True
  | .ok .skip _ => True
  | .halt _ _ => True
  | _ => False
theorem calm_v {P : Program} {w : World} (s : Sem Value) : CalmRes ((do let x ← s; pure (Next.value x) : Sem Next).run P w) := by
  rw [Sem.run_bind]
  cases s.run P w <;> simp [Result.andThen, CalmRes]
theorem calm_u {P : Program} {w : World} (s : Sem Unit) : CalmRes ((do s; pure Next.skip : Sem Next).run P w) := by
  rw [Sem.run_bind]
  cases s.run P w <;> simp [Result.andThen, CalmRes]
theorem calm_sem {P : Program} {o : Oper} (hc : calmOp o.op = true) (ρ : Operand → Value) (w : World) : CalmRes ((execOp ρ o).run P w) := by
  unfold execOp
  cases ho : o.op <;> rw [ho] at hc <;> simp only [calmOp] at hc <;> try (exact absurd hc (by decide))
  case move => exact trivial
  case assign => exact trivial
  case alloc => exact calm_v _
  case build => exact calm_v _
  case buildSlice => exact calm_v _
  case load => exact calm_v _
  case store => exact calm_u _
  case fieldAddr => exact calm_v _
  case mapUpdate => exact calm_u _
  case nilCheck x =>
    simp only []
    split
    · exact trivial
    · exact trivial
    · exact trivial
    · split
      · exact trivial
      · rename_i x1 name first captured h1 x2 t w' h2
        rw [Sem.run_bind]
        cases (program.run P w) with
        | halt _ _ => simp [CalmRes]
        | ok pr w1 =>
          simp only [CalmRes]
          generalize hn : (nilAhead (pr.types.size + Made.depth) t w' name).run P w1 = r
          simp [hn]
          cases r with
          | halt _ _ => simp
          | ok b w2 =>
            by_cases hb : b = some false <;> simp [hb]
      · exact trivial
    · exact trivial
  case call c =>
    cases hcc : c.callee with
    | builtin b =>
      rw [hcc] at hc
      cases b <;> simp only [] at hc <;> try (exact absurd hc (by decide))
      simp only [resolve, hcc, Sem.run_bind, Sem.run_pure, Result.andThen, invoke, builtin]
      cases (Builtin.append_ c.argTypes o.type (Array.map ρ c.args)).run P w <;> simp [CalmRes]
    | invoke _ _ => rw [hcc] at hc; exact absurd hc (by simp)
    | value _ => rw [hcc] at hc; exact absurd hc (by simp)
theorem calm_about {P : Program} {o : Oper} (hc : calmOp o.op = true) (ρ : Operand → Value) (w : World) : o.about P w ρ = none := by
  unfold Oper.about
  cases ho : o.op <;> rw [ho] at hc <;> simp only [calmOp] at hc <;> try (exact absurd hc (by decide))
  all_goals try rfl
  rename_i c
  cases hcc : c.callee with
  | builtin b => simp only [resolve, hcc, Sem.run_pure, Target.leads]
  | invoke _ _ => rw [hcc] at hc; exact absurd hc (by simp)
  | value _ => rw [hcc] at hc; exact absurd hc (by simp)
theorem calm_op {F : Fence} {n : Nat} {P : Program} {o : Oper} (hc : calmOp o.op = true) {a : Act} {w : World} {K : Act → World → Prop} {Q Q' : Exit → Act → World → Prop} (hP : ∀ c a w, ¬ Q (.panic c) a w) (h : o.wp P a w K Q) : o.wpIn F n P a w K Q' := by
  refine ⟨fun f e => (by rw [calm_about hc] at e; cases e), ?_⟩
  rw [Oper.semAt_plain F _ _ (fun c e => by rw [e] at hc; simp [calmOp] at hc)]
  have hr := calm_sem (P := P) hc a.eval w
  unfold Oper.wp at h
  revert h hr
  cases (execOp a.eval o).run P w with
  | ok x w' => cases x <;> simp [CalmRes, Oper.upon, Oper.uponIn]
  | halt x w' =>
    cases x <;> simp [CalmRes, Oper.upon, Oper.uponIn]
    intro h
    exact absurd h (hP _ _ _)
/-- The region's end alone is asked for: nothing on the way panics. -/
def OnlyN (R : Act → World → Prop) : Exit → Act → World → Prop
  | .normal, a, w => R a w
  | _, _, _ => False
theorem anyIn_of_any {F : Fence} {n : Nat} {P : Program} {md : Region.Mode} {ops : Array Oper} {Q : Exit → Act → World → Prop} (hc : ∀ (i : Nat) (o : Oper), ops[i]? = some o → calmOp o.op = true) :
    ∀ (fuel : Nat) (listed : Array Bool) (a : Act) (w : World), wpAny P md ops (OnlyN (Q .normal)) fuel listed a w → wpAnyIn F n P md ops Q fuel listed a w
  | 0, _, _, _, h => ⟨h.1, h.2⟩
  | fuel + 1, listed, a, w, h => by
    refine ⟨h.1, fun i hi => ?_⟩
    have hh := h.2 i hi
    unfold wpOp at hh
    unfold wpOpIn
    cases ho : ops[i]? with
    | none =>
      rw [ho] at hh
      exact anyIn_of_any hc fuel _ _ _ hh
    | some o =>
      rw [ho] at hh
      simp only at hh ⊢
      split
      · rename_i hw
        rw [if_pos hw] at hh
        rcases hh with hh | ⟨_, a', w', hl⟩
        · exact Oper.wpIn_mono (fun a w => anyIn_of_any hc fuel _ a w) (calm_op (hc i o ho) (fun _ _ _ h => h) hh)
        · exact hl.elim
      · rename_i hw
        rw [if_neg hw] at hh
        exact ⟨fun f e => (by rw [calm_about (hc i o ho)] at e; cases e), anyIn_of_any hc fuel _ _ _ hh⟩
/-- A region that draws its order, in whatever fence: what the loads see is held (S). -/
theorem in_region_held {F : Fence} {n : Nat} {P : Program} {S : World → Prop} {id : Nat} {ops : Array Oper} {Q : Exit → Act → World → Prop} {a : Act} {w : World} (hm : P.follows .mixedOrders = true) (hc : ops.all (fun o => calmOp o.op) = true) (hS : S w.drew)
    (h : S w.drew → wpAnyH P .any ops (OnlyN (Q .normal)) S ops.size (Array.replicate ops.size false) a w.drew) : (Code.region id ops true).wpIn F n P Q a w :=
  wpIn_region_any hm (anyIn_of_any (fun i o ho => by
    have := Array.all_eq_true.1 hc i (Array.getElem?_eq_some_iff.1 ho).1
    rw [(Array.getElem?_eq_some_iff.1 ho).2] at this
    exact this) _ _ _ _ (wpAny_of_held _ _ _ _ (h hS)))
end Go.Proofs.Ytnjnajbdpaaikaa
