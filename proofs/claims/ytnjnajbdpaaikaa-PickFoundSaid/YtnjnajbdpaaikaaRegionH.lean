/- A region that draws its order, taken by hand, number by number: what is held may be made narrower on the way. -/
import Derived.Test.YtnjnajbdpaaikaaBase
import Derived.Deep.RegionHeld3
namespace Go.Proofs.Ytnjnajbdpaaikaa
section
variable {P : Program} {ops : Array Oper} {Q : Exit → Act → World → Prop} {md : Region.Mode} {S S' : World → Prop}
theorem wpAnyH_change (h : ∀ w, S' w → S w) : ∀ (fuel : Nat) (listed : Array Bool) (a : Act) (w : World), wpAnyH P md ops Q S' fuel listed a w → wpAnyH P md ops Q S fuel listed a w
  | 0, _, _, _, H => H
  | fuel + 1, _, _, _, H => ⟨H.1, fun i hi => wpOp_mono (fun a' w' h' => ⟨h _ h'.1, wpAnyH_change h fuel _ a' w' h'.2⟩) (H.2 i hi)⟩
end
end Go.Proofs.Ytnjnajbdpaaikaa
