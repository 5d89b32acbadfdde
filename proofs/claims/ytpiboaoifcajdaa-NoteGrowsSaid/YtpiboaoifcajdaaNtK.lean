/- A log's map: its keys, and what it holds. -/
import Derived.Test.YtpiboaoifcajdaaNtL
import Derived.Test.YtpiboaoifcajdaaCalm
import Derived.Maps.OwnIn
import Derived.Maps.Views
import Derived.DeepKeys4
namespace Go.Proofs.Ytpiboaoifcajdaa
open Go.RowKit Go.Shelf Go.WideMaps Go.Maps

theorem place_row : (80 : TypeId) < Try.prog.types.size := of_decide_eq_true (by kernel_rfl)
theorem place_laid : laidOutB Try.prog = true := by kernel_rfl
theorem place_wide : (match Try.prog.underlying 80 with | some (.array _ _) | some (.struct _) => true | _ => false) = true := by rw [Try.underlying80]
theorem place_law : KeyLaw Try.prog 80 := deep_law_laid place_laid (m := 2) (by omega) place_row (by kernel_rfl) place_wide
theorem place_keyed : Keyed Try.prog 80 := Keyed.of_law place_law
def keyV (k a b : Int) : Value := .agg #[.int .i64 k, .int .i64 a, .int .i64 b]
def In64 (n : Int) : Prop := -9223372036854775808 ≤ n ∧ n ≤ 9223372036854775807
theorem wf64 {n : Int} (h : In64 n) : (Lit.int .i64 n).wf = true := by
  unfold In64 at h
  simp [Lit.wf, IntKind.min, IntKind.max, IntKind.signed, IntKind.bits]
  omega
theorem place_keyType : Try.prog.keyType 80 = true := by kernel_rfl
theorem place_cells : Try.prog.cellsOf 80 = 3 := by kernel_rfl
theorem int_cells : Try.prog.cellsOf 3 = 1 := by kernel_rfl
theorem types_size : ∃ n, Try.prog.types.size + 1 = n + 2 := ⟨Try.prog.types.size - 1, by have h : 0 < Try.prog.types.size := Nat.lt_of_le_of_lt (Nat.zero_le _) place_row; omega⟩
theorem key_some (k a b : Int) (hk : In64 k) (ha : In64 a) (hb : In64 b) : ∃ kl, keyOf Try.prog 80 (keyV k a b) = some kl := by
  unfold keyOf
  rw [Try.underlying80]
  simp only [place_keyType, Bool.true_and]
  have hf : (keyV k a b).formed Try.prog 80 = true := by simp [keyV, Value.formed, Try.underlying80, place_cells]
  rw [hf]
  obtain ⟨n, hn⟩ := types_size
  rw [hn]
  simp [keyV, Value.cells, Program.keyLits, Try.underlying80, Try.underlying3, place_cells, int_cells, wf64 hk, wf64 ha, wf64 hb]
/-- A note: kind, a, b, n. -/
structure Nt where
  k : Int
  a : Int
  b : Int
  n : Int
deriving DecidableEq
def Nt.ok (x : Nt) : Prop := In64 x.k ∧ In64 x.a ∧ In64 x.b ∧ In64 x.n
noncomputable def keyL (k a b : Int) : Lit := (keyOf Try.prog 80 (keyV k a b)).getD (.bool false)
theorem keyL_of {k a b : Int} (hk : In64 k) (ha : In64 a) (hb : In64 b) : keyOf Try.prog 80 (keyV k a b) = some (keyL k a b) := by
  obtain ⟨kl, h⟩ := key_some k a b hk ha hb
  unfold keyL
  rw [h]
  rfl
theorem keyL_inj {k a b k' a' b' : Int} (hk : In64 k) (ha : In64 a) (hb : In64 b) (hk' : In64 k') (ha' : In64 a') (hb' : In64 b') (h : keyL k a b = keyL k' a' b') : k = k' ∧ a = a' ∧ b = b' := by
  have h1 := keyL_of hk ha hb
  rw [h] at h1
  have := place_keyed.inj h1 (keyL_of hk' ha' hb')
  simpa [keyV] using this
/-- What the map of these notes' files reads as. -/
noncomputable def fileD : List Nt → DataW Unit
  | [] => .map []
  | x :: r => (fileD r).put (keyL x.k x.a x.b) (.lit (.int .i64 x.n))
/-- The file of a place, of notes, the last one first. -/
def fileOf : List Nt → Int → Int → Int → Option Int
  | [], _, _, _ => none
  | x :: r, k, a, b => if x.k = k ∧ x.a = a ∧ x.b = b then some x.n else fileOf r k a b
theorem fileD_map : ∀ l, IsMap (fileD l)
  | [] => isMap_empty
  | _ :: r => (fileD_map r).put _ _
theorem key_lit {k a b : Int} (hk : In64 k) (ha : In64 a) (hb : In64 b) : WideAt.IsKeyLit (keyL k a b) := place_keyed.key (keyL_of hk ha hb)
theorem fileD_look : ∀ (l : List Nt) (k a b : Int), In64 k → In64 a → In64 b → (∀ x ∈ l, x.ok) →
    Maps.has (fileD l) (keyL k a b) = (fileOf l k a b).isSome ∧ (fileD l).atKey (keyL k a b) (.lit (.int .i64 0)) = .lit (.int .i64 ((fileOf l k a b).getD 0))
  | [], k, a, b, _, _, _, _ => ⟨rfl, rfl⟩
  | x :: r, k, a, b, hk, ha, hb, hl => by
    have hx := hl x (List.mem_cons_self ..)
    have ih := fileD_look r k a b hk ha hb (fun y hy => hl y (List.mem_cons_of_mem _ hy))
    unfold fileD fileOf
    by_cases e : x.k = k ∧ x.a = a ∧ x.b = b
    · rw [if_pos e, e.1, e.2.1, e.2.2]
      exact ⟨by rw [has_put_same (fileD_map r) (key_lit hk ha hb) _]; rfl, atKey_put_same (fileD_map r) (key_lit hk ha hb) _ _⟩
    · rw [if_neg e]
      have hne : keyL k a b ≠ keyL x.k x.a x.b := fun h => by
        obtain ⟨e1, e2, e3⟩ := keyL_inj hk ha hb hx.1 hx.2.1 hx.2.2.1 h
        exact e ⟨e1.symm, e2.symm, e3.symm⟩
      exact ⟨(has_put_other hne _).trans ih.1, (atKey_put_other hne _ _).trans ih.2⟩
/-- The map, of its own. -/
def FilesAt (W : World) (mb : Nat) (fl : List Nt) : Prop := W.ownsMap Try.prog 80 (plainElem (H := Unit) Try.prog 2) mb fl.length (fileD fl)
theorem zero_i64 (w : World) : (zeroValue 2).run Try.prog w = .ok (.int .i64 0) w := by kernel_rfl
theorem FilesAt.look {W : World} {mb : Nat} {fl : List Nt} (h : FilesAt W mb fl) (hl : ∀ x ∈ fl, x.ok) {k a b : Int} (hk : In64 k) (ha : In64 a) (hb : In64 b) :
    (Instr.lookup 73 (.map (some mb)) (keyV k a b) true).run Try.prog W = .ok (.tuple #[.int .i64 ((fileOf fl k a b).getD 0), .bool (fileOf fl k a b).isSome]) W := by
  obtain ⟨v, ps, hr, hv⟩ := World.ownsMap.look_ok h place_keyed Try.underlying73 (zero_i64 W) (zd := .lit (.int .i64 0)) (zp := []) (plainElem_int Try.underlying2 rfl) (keyL_of hk ha hb)
  obtain ⟨e1, e2⟩ := fileD_look fl k a b hk ha hb hl
  rw [e1] at hr
  rw [e2] at hv
  obtain ⟨c, rfl, hc, _⟩ := plainElem_int_inv Try.underlying2 hv
  injection hc with hc _
  injection hc with hc
  injection hc with _ hc
  rw [hr, hc]
theorem FilesAt.store {W : World} {mb : Nat} {fl : List Nt} (h : FilesAt W mb fl) (hn : fl.length < maxLen) {x : Nt} (hx : x.ok) :
    ∃ w', (Instr.mapUpdate 73 (.map (some mb)) (keyV x.k x.a x.b) (.int .i64 x.n)).run Try.prog W = .ok () w' ∧ FilesAt w' mb (x :: fl) ∧ W.mapTurned w' mb :=
  World.ownsMap.store h place_keyed Try.underlying73 hn (keyL_of hx.1 hx.2.1 hx.2.2.1) (plainElem_int Try.underlying2 (wf64 hx.2.2.2))
end Go.Proofs.Ytpiboaoifcajdaa
