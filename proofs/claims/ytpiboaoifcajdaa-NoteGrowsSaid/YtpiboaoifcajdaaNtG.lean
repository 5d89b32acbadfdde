/- A log under way: what its rounds come to, and where it lies. -/
import Derived.Test.YtpiboaoifcajdaaNtK
namespace Go.Proofs.Ytpiboaoifcajdaa
open Go.RowKit Go.Shelf

def ntV (x : Nt) : Value := .agg #[.int .i64 x.k, .int .i64 x.a, .int .i64 x.b, .int .i64 x.n]
def ntL (x : Nt) : List Value := [.int .i64 x.k, .int .i64 x.a, .int .i64 x.b, .int .i64 x.n]
def flatN (l : List Nt) : List Value := l.flatMap ntL
theorem flatN_append (l m : List Nt) : flatN (l ++ m) = flatN l ++ flatN m := List.flatMap_append
theorem flatN_one (x : Nt) : flatN [x] = ntL x := by simp [flatN]
theorem flatN_length (l : List Nt) : (flatN l).length = 4 * l.length := by
  induction l with
  | nil => rfl
  | cons x r ih => rw [flatN, List.flatMap_cons, List.length_append, List.length_cons]; rw [flatN] at ih; rw [ih]; simp [ntL]; omega
/-- The note of bytes. -/
def noteP (xs : List UInt8) : Nt := if decOk xs then ⟨rK xs, rA xs, rB xs, rN xs⟩ else ⟨0, 0, 0, 0⟩
theorem decV_noteP (xs : List UInt8) : decV xs = ntV (noteP xs) := by
  unfold decV noteP
  split <;> rfl
theorem in64_nat (q : Nat) (h : q < 4294967296) : In64 (q : Int) := by unfold In64; omega
theorem pow84 : 2 ^ (8 * 4) = 4294967296 := by decide
theorem pow81 : 2 ^ (8 * 1) = 256 := by decide
theorem rK_lt (xs : List UInt8) : rK xs < 4294967296 := by
  have h := rVal_lt (xs.drop 0) 1 (by decide)
  rw [pow81] at h
  exact Nat.lt_trans h (by decide)
theorem rA_lt (xs : List UInt8) : rA xs < 4294967296 := by
  have h := rVal_lt (xs.drop (rp1 xs)) 4 (by decide)
  rw [pow84] at h
  exact h
theorem rB_lt (xs : List UInt8) : rB xs < 4294967296 := by
  have h := rVal_lt (xs.drop (rp2 xs)) 4 (by decide)
  rw [pow84] at h
  exact h
theorem rN_in (xs : List UInt8) : In64 (rN xs) := by
  unfold In64 rN
  rw [IntKind.wrap_i64]
  omega
theorem in64_0 : In64 0 := by unfold In64; decide
theorem Nt.ok_of {k a b n : Int} (h1 : In64 k) (h2 : In64 a) (h3 : In64 b) (h4 : In64 n) : (Nt.mk k a b n).ok := And.intro h1 (And.intro h2 (And.intro h3 h4))
theorem noteP_ok (xs : List UInt8) : (noteP xs).ok := by
  unfold noteP
  split
  · exact Nt.ok_of (in64_nat _ (rK_lt xs)) (in64_nat _ (rA_lt xs)) (in64_nat _ (rB_lt xs)) (rN_in xs)
  · exact Nt.ok_of in64_0 in64_0 in64_0 in64_0
structure St where
  bg : Bool
  l : List Nt
  fl : List Nt
  stop : Bool
def stepG (s : Int) (i : Nat) (t : St) (x : Nt) : St :=
  if i = 0 then (if x.k = 1 ∧ x.a = s then { t with bg := true } else { t with stop := true })
  else if x.k = 1 then { t with stop := true }
  else if x.k = 4 ∨ x.k = 5 then { t with l := t.l ++ [x], stop := true }
  else { t with l := t.l ++ [x], fl := x :: t.fl }
def runG (s : Int) (pre : List (Nat × List UInt8)) : St := pre.foldl (fun t p => if t.stop then t else stepG s p.1 t (noteP p.2)) ⟨false, [], [], false⟩
theorem runG_snoc (s : Int) (pre : List (Nat × List UInt8)) (p : Nat × List UInt8) : runG s (pre ++ [p]) = if (runG s pre).stop then runG s pre else stepG s p.1 (runG s pre) (noteP p.2) := by
  unfold runG
  rw [List.foldl_append]
  rfl
theorem runG_stop (s : Int) (pre : List (Nat × List UInt8)) (q : List (Nat × List UInt8)) (h : (runG s pre).stop = true) : runG s (pre ++ q) = runG s pre := by
  unfold runG at h ⊢
  rw [List.foldl_append]
  generalize List.foldl _ _ pre = t at h ⊢
  induction q with
  | nil => rfl
  | cons p q ih => rw [List.foldl_cons, if_pos h]; exact ih
theorem stepG_len (s : Int) (i : Nat) (t : St) (x : Nt) : (stepG s i t x).l.length ≤ t.l.length + 1 ∧ (stepG s i t x).fl.length ≤ t.fl.length + 1 ∧ (x.ok → (∀ y ∈ t.l, y.ok) → ∀ y ∈ (stepG s i t x).l, y.ok) ∧ (x.ok → (∀ y ∈ t.fl, y.ok) → ∀ y ∈ (stepG s i t x).fl, y.ok) := by
  unfold stepG
  repeat' split
  all_goals (simp; try omega)
  · intro h1 h2 y hy; rcases hy with hy | rfl; exact h2 y hy; exact h1
  · exact ⟨fun h1 h2 y hy => (by rcases hy with hy | rfl; exact h2 y hy; exact h1), fun h1 h2 => ⟨h1, h2⟩⟩
theorem runG_len (s : Int) (pre : List (Nat × List UInt8)) : (runG s pre).l.length ≤ pre.length ∧ (runG s pre).fl.length ≤ pre.length ∧ (∀ y ∈ (runG s pre).l, y.ok) ∧ ∀ y ∈ (runG s pre).fl, y.ok := by
  generalize hn : pre.length = n
  induction n generalizing pre with
  | zero => rw [List.length_eq_zero_iff.1 hn]; simp [runG]
  | succ n ih =>
    have hne : pre ≠ [] := fun e => by rw [e] at hn; simp at hn
    obtain ⟨p, hp⟩ : ∃ p, pre = pre.dropLast ++ [p] := ⟨_, (List.dropLast_concat_getLast hne).symm⟩
    have hl : pre.dropLast.length = n := by rw [List.length_dropLast, hn]; rfl
    have h := ih _ hl
    rw [hp, runG_snoc]
    split
    · exact ⟨by omega, by omega, h.2.2.1, h.2.2.2⟩
    · have k := stepG_len s p.1 (runG s pre.dropLast) (noteP p.2)
      exact ⟨by omega, by omega, k.2.2.1 (noteP_ok _) h.2.2.1, k.2.2.2 (noteP_ok _) h.2.2.2⟩
/-- A log in block lb, its map in mb, its list from base on. -/
structure LogAt (W : World) (lb mb base : Nat) (t : St) (v : Value) : Prop where
  c0 : W.cell? ⟨lb, 0, none⟩ = some (.bool t.bg)
  c1 : W.cell? ⟨lb, 1, none⟩ = some v
  c2 : W.cell? ⟨lb, 2, none⟩ = some (.map (some mb))
  z0 : W.frozen? ⟨lb, 0, none⟩ = false
  z1 : W.frozen? ⟨lb, 1, none⟩ = false
  own : W.ownsRow base 23 4 v t.l.length (flatN t.l)
  fil : FilesAt W mb t.fl
  lt1 : mb < lb
  lt2 : lb < base
theorem LogAt.kept {N : Nat} {A C : World} {lb mb base : Nat} {t : St} {v : Value} {row : Option Nat} (h : LogAt A lb mb base t v) (hN : lb < N) (hg : A.grownBy C row) (hr : ∀ r, row = some r → N ≤ r ∧ ∃ o, A.heap[r]? = some o ∧ o.isCells = false) : LogAt C lb mb base t v :=
  ⟨cell_kept h.c0 hg (fun r e => (hr r e).2), cell_kept h.c1 hg (fun r e => (hr r e).2), cell_kept h.c2 hg (fun r e => (hr r e).2), (frozen_kept h.c0 hg (fun r e => (hr r e).2)).trans h.z0, (frozen_kept h.c1 hg (fun r e => (hr r e).2)).trans h.z1,
    owns_kept h.own hg (fun r e => (hr r e).2), World.ownsMap.kept h.fil hg (fun e => by have := (hr mb e.symm).1; have := h.lt1; omega), h.lt1, h.lt2⟩
theorem FilesAt.chg {S : Nat → Prop} {A C : World} {mb : Nat} {fl : List Nt} (h : FilesAt A mb fl) (hC : Chg S A C) (hm : ¬ S mb) : FilesAt C mb fl := by
  have hlt := World.ownsMap.lt h
  obtain ⟨es, clock, hb, F, hs, hD⟩ := h
  exact ⟨es, clock, (hC.block mb hlt hm).trans hb, F, hs, hD⟩
theorem LogAt.chg {S : Nat → Prop} {A C : World} {lb mb base : Nat} {t : St} {v : Value} (h : LogAt A lb mb base t v) (hC : Chg S A C) (hm : ¬ S mb) (hb : ¬ S lb) (hv : ∀ q, v.ownBlock = some q → ¬ S q) : LogAt C lb mb base t v :=
  ⟨hC.cell h.c0 hb, hC.cell h.c1 hb, hC.cell h.c2 hb, hC.frozen h.c0 h.z0 hb, hC.frozen h.c1 h.z1 hb, hC.owns h.own hv, h.fil.chg hC hm, h.lt1, h.lt2⟩
theorem LogAt.st {W : World} {lb mb base : Nat} {t : St} {v : Value} (h : LogAt W lb mb base t v) (t' : St) (e1 : t'.bg = t.bg) (e2 : t'.l = t.l) (e3 : t'.fl = t.fl) : LogAt W lb mb base t' v := by
  obtain ⟨bg, l, fl, stop⟩ := t
  obtain ⟨bg', l', fl', stop'⟩ := t'
  cases e1; cases e2; cases e3
  exact ⟨h.c0, h.c1, h.c2, h.z0, h.z1, h.own, h.fil, h.lt1, h.lt2⟩
/-- It is begun. -/
theorem LogAt.begun {W : World} {lb mb base : Nat} {t : St} {v : Value} (h : LogAt W lb mb base t v) (b : Bool) : LogAt (W.setCell ⟨lb, 0, none⟩ (.bool b)) lb mb base { t with bg := b } v := by
  refine ⟨World.cell?_setCell_same' _ _ _ (by rw [h.c0]; rfl), ?_, ?_, by rw [World.frozen?_setCell]; exact h.z0, by rw [World.frozen?_setCell]; exact h.z1, ownsRow_setCell_below h.own h.lt2 _, World.ownsMap.setCell h.fil (by have := h.lt1; simp; omega) _, h.lt1, h.lt2⟩
  · rw [World.cell?_setCell_other _ _ _ _ (by simp)]; exact h.c1
  · rw [World.cell?_setCell_other _ _ _ _ (by simp)]; exact h.c2
/-- A note more. -/
theorem LogAt.more {W w1 : World} {lb mb base : Nat} {t : St} {v v2 : Value} {x : Nt} {row : Option Nat} (h : LogAt W lb mb base t v) (hg : W.grownBy w1 row) (hr : ∀ q, row = some q → base ≤ q)
    (hown : w1.ownsRow base 23 4 v2 (t.l.length + 1) (flatN t.l ++ ntL x)) :
    LogAt (w1.setCell ⟨lb, 1, none⟩ v2) lb mb base { t with l := t.l ++ [x] } v2 := by
  have n1 : ¬ (fun j => row = some j) lb := fun e => by have := hr _ e; have := h.lt2; omega
  have n2 : ¬ (fun j => row = some j) mb := fun e => by have := hr _ e; have := h.lt2; have := h.lt1; omega
  have hC : Chg (fun j => row = some j) W w1 := (Chg.refl _ W).grown hg (fun q e => .inl e)
  refine ⟨?_, World.cell?_setCell_same' _ _ _ (by rw [hC.cell h.c1 n1]; rfl), ?_, by rw [World.frozen?_setCell]; exact hC.frozen h.c0 h.z0 n1, by rw [World.frozen?_setCell]; exact hC.frozen h.c1 h.z1 n1, ?_, World.ownsMap.setCell (h.fil.chg hC n2) (by have := h.lt1; simp; omega) _, h.lt1, h.lt2⟩
  · rw [World.cell?_setCell_other _ _ _ _ (by simp)]; exact hC.cell h.c0 n1
  · rw [World.cell?_setCell_other _ _ _ _ (by simp)]; exact hC.cell h.c2 n1
  · have e : flatN (t.l ++ [x]) = flatN t.l ++ ntL x := by rw [flatN_append, flatN_one]
    show (w1.setCell ⟨lb, 1, none⟩ v2).ownsRow base _ 4 v2 (t.l ++ [x]).length (flatN (t.l ++ [x]))
    rw [List.length_append, e]
    exact ownsRow_setCell_below hown h.lt2 _
/-- A file more. -/
theorem LogAt.filed {W w1 : World} {lb mb base : Nat} {t : St} {v : Value} {x : Nt} (h : LogAt W lb mb base t v) (hf : FilesAt w1 mb (x :: t.fl)) (ht : W.mapTurned w1 mb) : LogAt w1 lb mb base { t with fl := x :: t.fl } v := by
  have hg := ht.grown
  have hC : Chg (fun j => j = mb) W w1 := (Chg.refl _ W).grown hg (fun q e => .inl (Option.some.inj e).symm)
  have n1 : ¬ lb = mb := by have := h.lt1; omega
  exact ⟨hC.cell h.c0 n1, hC.cell h.c1 n1, hC.cell h.c2 n1, hC.frozen h.c0 h.z0 n1, hC.frozen h.c1 h.z1 n1, hC.owns h.own (fun q e => by have := (h.own.lt q e).1; have := h.lt1; have := h.lt2; simp; omega), hf, h.lt1, h.lt2⟩
/-- What a round keeps. -/
def NewI (s : Int) (w8 : World) (lb mb base : Nat) (pre : List (Nat × List UInt8)) (W : World) : Prop := ((∃ v, LogAt W lb mb base (runG s pre) v) ∧ (runG s pre).stop = false) ∧ Chg (fun q => q = lb ∨ q = mb) w8 W
def NewX (s : Int) (w8 : World) (lb mb base : Nat) (c : Code) (pre : List (Nat × List UInt8)) (W : World) : Prop := ((∃ v, LogAt W lb mb base (runG s pre) v) ∧ (runG s pre).stop = true ∧ c = .exit 0) ∧ Chg (fun q => q = lb ∨ q = mb) w8 W
theorem ownFrom_chg {β : Type} {S : Nat → Prop} {w8 : World} {N : Nat} (hN : w8.heap.size ≤ N) : OwnFrom N (fun (_ : β) W => Chg S w8 W) := fun _ _ _ _ hs hg hr => hs.grown hg (fun k e => .inr (Nat.le_trans hN (hr k e).1))
theorem NewI.own (s : Int) (w8 : World) (lb mb base N : Nat) (h1 : w8.heap.size ≤ N) (h2 : lb < N) : OwnFrom N (NewI s w8 lb mb base) :=
  OwnFrom.and (fun _ _ _ _ hs hg hr => ⟨hs.1.imp fun _ h => h.kept h2 hg hr, hs.2⟩) (ownFrom_chg h1)
theorem NewX.own (s : Int) (w8 : World) (lb mb base N : Nat) (h1 : w8.heap.size ≤ N) (h2 : lb < N) (c : Code) : OwnFrom N (NewX s w8 lb mb base c) :=
  OwnFrom.and (fun _ _ _ _ hs hg hr => ⟨hs.1.imp fun _ h => h.kept h2 hg hr, hs.2⟩) (ownFrom_chg h1)
theorem NewI.abides (s : Int) (w8 : World) (lb mb base : Nat) : AbidesT (fun _ => False) (NewI s w8 lb mb base) := fun _ _ _ hs hC =>
  ⟨⟨hs.1.1.imp fun _ h => h.chg hC id id (fun _ _ => id), hs.1.2⟩, hs.2.trans hC (fun _ _ h => h) (fun _ _ h => h.elim)⟩
theorem NewX.abides (s : Int) (w8 : World) (lb mb base : Nat) (c : Code) : AbidesT (fun _ => False) (NewX s w8 lb mb base c) := fun _ _ _ hs hC =>
  ⟨⟨hs.1.1.imp fun _ h => h.chg hC id id (fun _ _ => id), hs.1.2⟩, hs.2.trans hC (fun _ _ h => h) (fun _ _ h => h.elim)⟩
theorem NewI.to {s : Int} {w8 W' : World} {lb mb base : Nat} {pre : List (Nat × List UInt8)} {p : Nat × List UInt8} {t' : St} {v' : Value} (hrun : runG s (pre ++ [p]) = t') (hlog : LogAt W' lb mb base t' v') (hst : t'.stop = false) (hC : Chg (fun q => q = lb ∨ q = mb) w8 W') : NewI s w8 lb mb base (pre ++ [p]) W' := by
  unfold NewI
  rw [hrun]
  exact ⟨⟨⟨_, hlog⟩, hst⟩, hC⟩
theorem NewX.to {s : Int} {w8 W' : World} {lb mb base : Nat} {pre : List (Nat × List UInt8)} {p : Nat × List UInt8} {t' : St} {v' : Value} (hrun : runG s (pre ++ [p]) = t') (hlog : LogAt W' lb mb base t' v') (hst : t'.stop = true) (hC : Chg (fun q => q = lb ∨ q = mb) w8 W') : NewX s w8 lb mb base (.exit 0) (pre ++ [p]) W' := by
  unfold NewX
  rw [hrun]
  exact ⟨⟨⟨_, hlog⟩, hst, rfl⟩, hC⟩
theorem keeps_grown {W w1 : World} {base : Nat} {e : TypeId} {sz n : Nat} {v : Value} {xs : List Value} (h : W.ownsRow base e sz v n xs) (hg : W.grownBy w1 v.ownBlock) : KeepsOthers W w1 := by
  refine KeepsOthers.of_grownBy hg ?_
  intro j ob hj hob
  rcases h.2 with ⟨rfl, _⟩ | ⟨g, cap, cur, rfl, hb, hgg, r⟩
  · simp [Value.ownBlock] at hj
  · have : g = j := by simpa [Value.ownBlock] using hj
    subst this
    rw [hgg] at hob
    cases hob
    rfl
theorem info_note : (Try.prog.info? 23).map (fun i => (i.zero, i.size, i.bytes)) = some (some (.agg #[.int .i64 0, .int .i64 0, .int .i64 0, .int .i64 0]), 4, 32) := by kernel_rfl
theorem und_notes : Try.prog.underlying 40 = some (.slice 23) := by kernel_rfl
/-- The rounds that stop, and all of them. -/
theorem enumP_add (ps : List (List UInt8)) : ∀ (d k : Nat), ∃ q, enumP ps (k + d) = enumP ps k ++ q
  | 0, k => ⟨[], by simp⟩
  | d + 1, k => by
    obtain ⟨q, hq⟩ := enumP_add ps d k
    refine ⟨q ++ [(k + d, ps.getD (k + d) [])], ?_⟩
    rw [← Nat.add_assoc, enumP_succ, hq, List.append_assoc]
/-- What a statement's log comes to. -/
def logOf (s : Int) (ps : List (List UInt8)) : St := runG s (enumP ps (goodN ps))
theorem logOf_stop (s : Int) (ps : List (List UInt8)) (k : Nat) (hk : k < goodN ps) (h : (runG s (enumP ps (k + 1))).stop = true) : runG s (enumP ps (k + 1)) = logOf s ps := by
  obtain ⟨q, hq⟩ := enumP_add ps (goodN ps - (k + 1)) (k + 1)
  rw [show k + 1 + (goodN ps - (k + 1)) = goodN ps by omega] at hq
  unfold logOf
  rw [hq, runG_stop s _ _ h]
end Go.Proofs.Ytpiboaoifcajdaa
