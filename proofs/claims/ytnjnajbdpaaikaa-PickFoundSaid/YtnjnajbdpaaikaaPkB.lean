/- pick: the plain law of compress: copies. -/
import Derived.Test.YtnjnajbdpaaikaaArE
namespace Go.Proofs.Ytnjnajbdpaaikaa
open Go.RowKit

def sumL : List Int → Int
  | [] => 0
  | n :: r => n + sumL r
theorem sumL_nonneg : ∀ {l : List Int}, (∀ n ∈ l, 0 ≤ n) → 0 ≤ sumL l
  | [], _ => Int.le_refl _
  | n :: r, h => by
    have := sumL_nonneg (l := r) (fun m hm => h m (List.mem_cons_of_mem _ hm))
    have := h n (by simp)
    unfold sumL; omega
theorem sumL_app : ∀ (a b : List Int), sumL (a ++ b) = sumL a + sumL b
  | [], b => by simp [sumL]
  | n :: r, b => by rw [List.cons_append, sumL, sumL, sumL_app r b]; omega
/-- The places, each as often as is said. -/
def cpy : List Int → Nat → List Int
  | [], _ => []
  | n :: r, k => List.replicate n.toNat (k : Int) ++ cpy r (k + 1)
theorem cpy_app : ∀ (a b : List Int) (k : Nat), cpy (a ++ b) k = cpy a k ++ cpy b (k + a.length)
  | [], b, k => by simp [cpy]
  | n :: r, b, k => by
    rw [List.cons_append, cpy, cpy, cpy_app r b, List.append_assoc, List.length_cons]
    congr 3
    omega
theorem cpy_length : ∀ {l : List Int} (k : Nat), (∀ n ∈ l, 0 ≤ n) → ((cpy l k).length : Int) = sumL l
  | [], k, _ => rfl
  | n :: r, k, h => by
    have := cpy_length (l := r) (k + 1) (fun m hm => h m (List.mem_cons_of_mem _ hm))
    have := h n (by simp)
    rw [cpy, List.length_append, List.length_replicate, sumL]; omega
theorem cpy_bd : ∀ {l : List Int} {k : Nat}, ∀ x ∈ cpy l k, (k : Int) ≤ x ∧ x < k + l.length
  | [], k, x, h => by cases h
  | n :: r, k, x, h => by
    rw [cpy] at h
    rcases List.mem_append.1 h with h | h
    · rw [List.mem_replicate] at h
      rw [h.2, List.length_cons]; omega
    · have := cpy_bd x h
      rw [List.length_cons]; omega
/-- How many copies of each. -/
def cntL (L : Ar) (long : Nat) : List Int := if L.s = [] then List.replicate long (L.e.headD 0) else L.e
/-- The shape that is gone along: a scalar is as long as the list. -/
def cpS (L : Ar) (s : List Int) : List Int := if s = [] then [(L.e.length : Int)] else s
def cpLong (L : Ar) (s : List Int) : Int := (cpS L s).getLastD 0
def cpTo (L : Ar) (s : List Int) : List Int := (cpS L s).dropLast ++ [((cpy (cntL L (cpLong L s).toNat) 0).length : Int)]
def cpE (L : Ar) (s : List Int) : Int :=
  if shB s then (if lstE L = 0 then (if L.e.any (fun n => decide (n < 0)) then 5 else if L.s ≠ [] ∧ (L.e.length : Int) ≠ cpLong L s then 4 else if sumL (cntL L (cpLong L s).toNat) ≤ 4096 ∧ shB (cpTo L s) = true then 0 else 9) else lstE L) else 110
def cpP (L : Ar) (s : List Int) (i : Int) : Int :=
  let c := cpy (cntL L (cpLong L s).toNat) 0
  if s = [] then 0 else i / (c.length : Int) * cpLong L s + c.getD (i % (c.length : Int)).toNat 0
def cpW (L : Ar) (s : List Int) : Wy := if cpE L s = 0 then ⟨cpTo L s, (List.range (prodL (cpTo L s)).toNat).map (fun (i : Nat) => (0, cpP L s i)), 0⟩ else noW (cpE L s)
end Go.Proofs.Ytnjnajbdpaaikaa
