/- scalar.beside: elements of two that stand together, as a range. -/
import Derived.Test.YtjmlekdgipinfaaScY
import Derived.Test.YtjmlekdgipinfaaRangeKp
import Derived.Test.YtjmlekdgipinfaaHeldI
import Derived.Stop.RegionWithIn
import Derived.Laws.EntriesVeiled
namespace Go.Proofs.Ytjmlekdgipinfaa
open Go.RowKit Go.Shelf
attribute [local go_sem] Oper.semAt_some

/-- An element at a place; a scalar's only one. -/
def elAt (A : Ar) (i : Nat) : Int := if A.s = [] then A.e.getD 0 0 else A.e.getD i 0
def HasAt (A : Ar) (i : Nat) : Prop := (A.s = [] ∧ 0 < A.e.length) ∨ (A.s ≠ [] ∧ i < A.e.length)
theorem bsd1_any (vs ve : Value) (A : Ar) (i : Nat) (w : World) (hs : Ls w vs A.s) (he : Ls w ve A.e) (h : HasAt A i) : Calls Try.prog 118 (#[.agg #[.int .i64 A.k, vs, ve], .int .i64 i] ++ #[]) w (fun e w' => e = .returned (.int .i64 (elAt A i)) ∧ w' = w.alloc (.cells #[.int .i64 A.k, vs, ve] 25)) := by
  obtain ⟨sa, cs, rfl, _⟩ := hs.form
  obtain ⟨ea, ce, rfl, _⟩ := id he.form
  have hC0 := (Chg.refl (fun _ => False) w).alloc (.cells #[.int .i64 A.k, .slice sa A.s.length cs, .slice ea A.e.length ce] 25)
  rcases h with ⟨h1, h2⟩ | ⟨h1, h2⟩
  · have e0 : ((A.s.length : Int) == 0) = true := by rw [h1]; rfl
    obtain ⟨b, o, c, e1, hc⟩ := (he.fr hC0).at h2
    injection e1 with e1 e2 e3
    clear e2 e3
    subst e1
    have HR := Lib.hid (show elAt A i = A.e[0] by unfold elAt; rw [if_pos h1]; simp [h2])
    have hi1 : (0 : Int) < (A.e.length : Int) := by omega
    generalize A.e[0] = x at *
    have h3 : 0 < A.e.length := h2
    rw [Nat.add_zero] at hc
    clear hs he h1
    go_enter Try.func118, Try.ntmps118
    go_wp2
    go_ret
    exact ⟨by rw [HR.out]; rfl, rfl⟩
  · have e0 : ((A.s.length : Int) == 0) = false := by rw [beq_eq_false_iff_ne]; have := List.length_pos_iff.2 h1; omega
    obtain ⟨b, o, c, e1, hc⟩ := (he.fr hC0).at h2
    injection e1 with e1 e2 e3
    clear e2 e3
    subst e1
    have HR := Lib.hid (show elAt A i = A.e[i] by unfold elAt; rw [if_neg h1]; simp [h2])
    have hi0 : (0 : Int) ≤ (i : Int) := by omega
    have hi1 : (i : Int) < (A.e.length : Int) := by omega
    generalize A.e[i] = x at *
    clear hs he h1 h2
    go_enter Try.func118, Try.ntmps118
    go_wp2
    go_ret
    exact ⟨by rw [HR.out]; rfl, rfl⟩
def encP (x : Int × Int) : Array Value := #[.agg #[.int .i64 x.1, .int .i64 x.2]]
def prL (A B : Ar) (n : Nat) : List (Int × Int) := (List.range n).map fun i => (elAt A i, elAt B i)
theorem prL_succ (A B : Ar) (n k : Nat) (h : k < n) : (prL A B n).take (k + 1) = (prL A B n).take k ++ [(elAt A k, elAt B k)] := by
  rw [List.take_succ_eq_append_getElem (by simp [prL]; exact h)]
  simp [prL]
/-- The iterator, its boxes. -/
structure BsAt (w : World) (bA bB bn bf : Nat) (vs ve us ue : Value) (n : Int) (A B : Ar) : Prop where
  a0 : w.cell? ⟨bA, 0, none⟩ = some (.int .i64 A.k)
  a1 : w.cell? ⟨bA, 1, none⟩ = some vs
  a2 : w.cell? ⟨bA, 2, none⟩ = some ve
  b0 : w.cell? ⟨bB, 0, none⟩ = some (.int .i64 B.k)
  b1 : w.cell? ⟨bB, 1, none⟩ = some us
  b2 : w.cell? ⟨bB, 2, none⟩ = some ue
  n0 : w.cell? ⟨bn, 0, none⟩ = some (.int .i64 n)
  f0 : w.cell? ⟨bf, 0, none⟩ = some (.func (.func 118) #[] #[])
def GaveBs (w : World) (vs ve us ue : Value) (n : Int) (A B : Ar) (e : Ending) (w' : World) : Prop := ∃ bA bB bn bf, e = .returned (.func (.func 119) #[] #[.pointer (some ⟨bn, 0, none⟩), .pointer (some ⟨bf, 0, none⟩), .pointer (some ⟨bA, 0, none⟩), .pointer (some ⟨bB, 0, none⟩)]) ∧ BsAt w' bA bB bn bf vs ve us ue n A B ∧ (w.heap.size ≤ bA ∧ w.heap.size ≤ bB ∧ w.heap.size ≤ bn ∧ w.heap.size ≤ bf) ∧ Chg (fun _ => False) w w'
theorem beside_any (vs ve us ue : Value) (n : Int) (A B : Ar) (w : World) (hs : Ls w vs A.s) (he : Ls w ve A.e) (ht : Ls w us B.s) (hf : Ls w ue B.e) : Calls Try.prog 89 #[.agg #[.int .i64 A.k, vs, ve], .agg #[.int .i64 B.k, us, ue], .int .i64 n] w (GaveBs w vs ve us ue n A B) := by
  obtain ⟨sa, cs, rfl, _⟩ := hs.form
  obtain ⟨ea, ce, rfl, _⟩ := he.form
  obtain ⟨ta, ct, rfl, _⟩ := ht.form
  obtain ⟨fa, cf, rfl, _⟩ := hf.form
  clear hs he ht hf
  have H : ∀ (z : Value) (t1 t2 : TypeId), BsAt ((((w.alloc (.cells #[.int .i64 A.k, .slice sa A.s.length cs, .slice ea A.e.length ce] 25)).alloc (.cells #[.int .i64 B.k, .slice ta B.s.length ct, .slice fa B.e.length cf] 25)).alloc (.cells #[.int .i64 n] t1)).alloc (.cells #[.func (.func 118) #[] #[]] t2)) w.heap.size (w.heap.size + 1) (w.heap.size + 1 + 1) (w.heap.size + 1 + 1 + 1) (.slice sa A.s.length cs) (.slice ea A.e.length ce) (.slice ta B.s.length ct) (.slice fa B.e.length cf) n A B := by
    intro z t1 t2
    have k1 := (((Chg.refl (fun _ => False) (w.alloc (.cells #[.int .i64 A.k, .slice sa A.s.length cs, .slice ea A.e.length ce] 25))).alloc (.cells #[.int .i64 B.k, .slice ta B.s.length ct, .slice fa B.e.length cf] 25)).alloc (.cells #[.int .i64 n] t1)).alloc (.cells #[.func (.func 118) #[] #[]] t2)
    have k2 := ((Chg.refl (fun _ => False) ((w.alloc (.cells #[.int .i64 A.k, .slice sa A.s.length cs, .slice ea A.e.length ce] 25)).alloc (.cells #[.int .i64 B.k, .slice ta B.s.length ct, .slice fa B.e.length cf] 25))).alloc (.cells #[.int .i64 n] t1)).alloc (.cells #[.func (.func 118) #[] #[]] t2)
    have k3 := (Chg.refl (fun _ => False) (((w.alloc (.cells #[.int .i64 A.k, .slice sa A.s.length cs, .slice ea A.e.length ce] 25)).alloc (.cells #[.int .i64 B.k, .slice ta B.s.length ct, .slice fa B.e.length cf] 25)).alloc (.cells #[.int .i64 n] t1))).alloc (.cells #[.func (.func 118) #[] #[]] t2)
    have x1 := fun i v h => k1.cell (new_cell w #[.int .i64 A.k, .slice sa A.s.length cs, .slice ea A.e.length ce] 25 (i := i) (v := v) h) id
    have x2 := fun i v h => k2.cell (new_cell (w.alloc (.cells #[.int .i64 A.k, .slice sa A.s.length cs, .slice ea A.e.length ce] 25)) #[.int .i64 B.k, .slice ta B.s.length ct, .slice fa B.e.length cf] 25 (i := i) (v := v) h) id
    have x3 := k3.cell (new_cell ((w.alloc (.cells #[.int .i64 A.k, .slice sa A.s.length cs, .slice ea A.e.length ce] 25)).alloc (.cells #[.int .i64 B.k, .slice ta B.s.length ct, .slice fa B.e.length cf] 25)) #[.int .i64 n] t1 (i := 0) rfl) id
    have x4 := new_cell (((w.alloc (.cells #[.int .i64 A.k, .slice sa A.s.length cs, .slice ea A.e.length ce] 25)).alloc (.cells #[.int .i64 B.k, .slice ta B.s.length ct, .slice fa B.e.length cf] 25)).alloc (.cells #[.int .i64 n] t1)) #[.func (.func 118) #[] #[]] t2 (i := 0) rfl
    simp only [World.size_alloc] at x2 x3 x4
    exact ⟨x1 0 _ rfl, x1 1 _ rfl, x1 2 _ rfl, x2 0 _ rfl, x2 1 _ rfl, x2 2 _ rfl, x3, x4⟩
  have HC := Lib.hid (fun (t1 t2 : TypeId) => ((((Chg.refl (fun _ => False) w).alloc (.cells #[.int .i64 A.k, .slice sa A.s.length cs, .slice ea A.e.length ce] 25)).alloc (.cells #[.int .i64 B.k, .slice ta B.s.length ct, .slice fa B.e.length cf] 25)).alloc (.cells #[.int .i64 n] t1)).alloc (.cells #[.func (.func 118) #[] #[]] t2))
  have HH := Lib.hid H
  clear H
  go_enter Try.func89, Try.ntmps89
  go_wp2
  go_ret
  exact ⟨_, _, _, _, rfl, HH.out .nilFunc _ _, ⟨by omega, by omega, by omega, by omega⟩, HC.out _ _⟩
set_option maxRecDepth 100000 in
set_option maxHeartbeats 4000000 in
theorem beside2_in (l bA bB bn bf : Nat) (vs ve us ue : Value) (n : Nat) (A B : Ar) (hn2 : n ≤ 1000000) (hA : ∀ i, i < n → HasAt A i) (hB : ∀ i, i < n → HasAt B i) (R : Nat → Prop) (Ok : Int × Int → Prop) (hOk : ∀ i, i < n → Ok (elAt A i, elAt B i)) (J Jx : List (Int × Int) → World → Prop) (hJ : AbidesT (fun _ => False) J)
    (hY : ∀ pre x W1, Ok x → J pre W1 → pre.length < n → YieldAt Fence.wide 6 Try.prog l (encP x) W1 fun e W' =>
      (e = .returned (.bool true) ∧ J (pre ++ [x]) W' ∧ Keep R W1 W') ∨ (e = .returned (.bool false) ∧ Jx (pre ++ [x]) W'))
    (w00 w0 : World) (hRl : ∀ q, q < w00.heap.size → R q) (hRb : R bA ∧ R bB ∧ R bn ∧ R bf) (h00 : Chg (fun _ => False) w00 w0) (hJx : ∀ pre W, Jx pre W → ∀ q, R q → W.heap[q]? = w0.heap[q]?) (hR0 : ∀ q, R q → q < w0.heap.size) (hbs : BsAt w0 bA bB bn bf vs ve us ue n A B) (hs : Ls w00 vs A.s) (he : Ls w00 ve A.e) (ht : Ls w00 us B.s) (hf : Ls w00 ue B.e) (W : World) (hW : ∀ q, R q → W.heap[q]? = w0.heap[q]?) (h0 : J [] W) :
    CallsIn Fence.wide 7 Try.prog 119 #[.func (.yield l) #[] #[], .pointer (some ⟨bn, 0, none⟩), .pointer (some ⟨bf, 0, none⟩), .pointer (some ⟨bA, 0, none⟩), .pointer (some ⟨bB, 0, none⟩)] W fun e W' => (∃ v, e = .returned v) ∧
      ((∃ ys, ys = prL A B n ∧ J ys W') ∨ (∃ pre, (∃ q, q < n ∧ pre = (prL A B n).take (q + 1)) ∧ Jx pre W')) := by
  have hcell : ∀ (W : World), (∀ q, R q → W.heap[q]? = w0.heap[q]?) → ∀ (p : Addr) (v : Value), R p.block → w0.cell? p = some v → W.cell? p = some v := fun W h p v hr hc => (World.cell?_of_block (h p.block hr)).trans hc
  have hls : ∀ (W : World), (∀ q, R q → W.heap[q]? = w0.heap[q]?) → ∀ (v : Value) (xs : List Int), Ls w00 v xs → Ls W v xs := fun W h v xs hc => ⟨Sl.form hc, fun j u hu => by obtain ⟨b, o, c, rfl, hc'⟩ := Sl.cells hc j u hu; exact ⟨b, o, c, rfl, hcell W h _ _ (hRl _ (cell_lt hc')) (h00.cell hc' id)⟩⟩
  obtain ⟨sa, cs, rfl, _⟩ := hs.form
  obtain ⟨ea, ce, rfl, _⟩ := he.form
  obtain ⟨ta, ct, rfl, _⟩ := ht.form
  obtain ⟨fa, cf, rfl, _⟩ := hf.form
  have hlt0 : ∀ (W : World), (∀ q, R q → W.heap[q]? = w0.heap[q]?) → ∀ q, R q → q < W.heap.size := fun W h q hq => by
    have h1 := h q hq
    rw [Array.getElem?_eq_getElem (hR0 q hq : q < w0.heap.size)] at h1
    exact (Array.getElem?_eq_some_iff.1 h1).1
  have HQ := Lib.hid hlt0
  clear hlt0
  have HBS := Lib.hid hbs
  have HCL := Lib.hid hcell
  have HLS := Lib.hid hls
  have HYY := Lib.hid hY
  have HOK := Lib.hid hOk
  have HJX := Lib.hid hJx
  have HAB := Lib.hid (And.intro hA hB)
  have HL4 := Lib.hid (show Ls w00 _ A.s ∧ Ls w00 _ A.e ∧ Ls w00 _ B.s ∧ Ls w00 _ B.e from ⟨hs, he, ht, hf⟩)
  have HJ := Lib.hid hJ
  have n0 := hcell W hW _ _ hRb.2.2.1 hbs.n0
  have HRB := Lib.hid hRb
  have HW := Lib.hid hW
  clear hOk hRb hRl h00 hR0 hJx hbs hcell hls hY hs he ht hf hA hB hW hJ
  (refine callsIn_of_wp Try.func119 rfl trivial ?_ rfl; simp only [Try.ntmps119, List.size_toArray, List.length_cons, List.length_nil, Nat.reduceAdd, Nat.reduceSub, Array.replicate_succ, Array.replicate_zero, List.push_toArray, List.append_toArray, List.nil_append, List.cons_append])
  refine wpIn_wide.2 ?_
  go_wp2
  refine (wpIn_wide (n := 7)).1 ?_
  gi_loopw [8] (fun i wr => ∃ k : Nat, k ≤ n ∧ i = .int .i64 k ∧ J ((prL A B n).take k) wr ∧ (∀ q, R q → wr.heap[q]? = w0.heap[q]?))
    (fun i _ => n - (intOf i).toNat)
  case atStart => exact ⟨0, Nat.zero_le _, rfl, h0, HW.out⟩
  case round =>
    obtain ⟨k, hk, rfl, hJs, hsm0⟩ := hrel
    by_cases hlt : k < n
    · have hj2 : (k : Int) < (n : Int) := by omega
      have hkw : IntKind.i64.wrap ((k : Int) + 1) = (k : Int) + 1 := IntWalk.i64_in _ (by omega)
      have hl8 : ((prL A B n).take k).length < n := by rw [List.length_take]; simp [prL]; omega
      have HN := Lib.hid (prL_succ A B n k hlt)
      have hltH := Lib.hid hlt
      obtain ⟨W1, hW1⟩ : ∃ W1, ((wr.alloc (.cells #[.int .i64 A.k, .slice sa A.s.length cs, .slice ea A.e.length ce] 25)).alloc (.cells #[.int .i64 B.k, .slice ta B.s.length ct, .slice fa B.e.length cf] 25)).drew = W1 := ⟨_, rfl⟩
      have hcA : Chg (fun _ => False) wr W1 := by rw [← hW1]; exact (((Chg.refl _ wr).alloc _).alloc _).drew
      have H1 := Lib.hid (show ∀ w', Chg (fun _ => False) wr w' → Calls Try.prog 118 (#[.agg #[.int .i64 A.k, .slice sa A.s.length cs, .slice ea A.e.length ce], .int .i64 k]) w' (fun e w2 => e = .returned (.int .i64 (elAt A k)) ∧ w2 = w'.alloc (.cells #[.int .i64 A.k, .slice sa A.s.length cs, .slice ea A.e.length ce] 25)) from fun w' h => by
        have := bsd1_any _ _ A k w' ((HLS.out _ hsm0 _ _ HL4.out.1).fr h) ((HLS.out _ hsm0 _ _ HL4.out.2.1).fr h) (HAB.out.1 k hlt)
        rw [Array.append_empty] at this
        exact this)
      have H2 := Lib.hid (show ∀ w', Chg (fun _ => False) wr w' → Calls Try.prog 118 (#[.agg #[.int .i64 B.k, .slice ta B.s.length ct, .slice fa B.e.length cf], .int .i64 k]) w' (fun e w2 => e = .returned (.int .i64 (elAt B k)) ∧ w2 = w'.alloc (.cells #[.int .i64 B.k, .slice ta B.s.length ct, .slice fa B.e.length cf] 25)) from fun w' h => by
        have := bsd1_any _ _ B k w' ((HLS.out _ hsm0 _ _ HL4.out.2.2.1).fr h) ((HLS.out _ hsm0 _ _ HL4.out.2.2.2).fr h) (HAB.out.2 k hlt)
        rw [Array.append_empty] at this
        exact this)
      obtain ⟨fn, tmps, assign, body, hy, hRd⟩ := HYY.out ((prL A B n).take k) (elAt A k, elAt B k) W1 (HOK.out k hlt) (HJ.out _ _ _ hJs hcA) hl8
      simp only [encP] at hy
      have hRd' := hRd.mono (R' := fun e W' => ∃ bb, e = .returned (.bool bb) ∧ (bb = true → J ((prL A B n).take k ++ [(elAt A k, elAt B k)]) W' ∧ Keep R W1 W') ∧ (bb = false → Jx ((prL A B n).take k ++ [(elAt A k, elAt B k)]) W')) (by
        rintro e W3 (⟨rfl, h1, h2⟩ | ⟨rfl, h1⟩)
        · exact ⟨true, rfl, fun _ => ⟨h1, h2⟩, fun h => by cases h⟩
        · exact ⟨false, rfl, fun h => by (cases h), fun _ => h1⟩)
      have HSM := Lib.hid (fun q hq => (hcA.block q (HQ.out _ hsm0 q hq) id).trans (hsm0 q hq) : ∀ q, R q → W1.heap[q]? = w0.heap[q]?)
      have hW1' := Lib.hid hW1
      generalize hxa : elAt A k = xa at *
      generalize hxb : elAt B k = xb at *
      have eg1 := enters_of Try.func118 (by kernel_rfl) rfl
      have hS1 := HSM.out
      rw [← hW1] at hy hRd' hS1
      have HS1 := Lib.hid hS1
      clear hRd hl8 hcA hlt hk hJs hW1 HSM hW1' hS1
      have hS0 : ∀ q, R q → wr.drew.heap[q]? = w0.heap[q]? := hsm0
      have HSZ := Lib.hid (HQ.out _ hsm0)
      clear hsm0
      gi_wp2
      refine wpIn_region_held (S := fun W => ∀ q, R q → W.heap[q]? = w0.heap[q]?) (by kernel_rfl) ?_
      have hHeld : (fun W : World => ∀ q, R q → W.heap[q]? = w0.heap[q]?) wr.drew := hS0
      refine' wpAnyHI_take (i := 0) (oi := _) (v := .func (.yield l) #[] #[]) rfl ?hia0 (by kernel_rfl) (by kernel_rfl) (by kernel_rfl) ?hqa0 (Or.inl ⟨?hwa0, fun w hSw => ?hya0⟩) ?hba0 hHeld ?hka0
      case hia0 => (first | rfl | (simp only [List.getElem?_toArray, List.getElem?_cons_succ, List.getElem?_cons_zero]; rfl))
      case hqa0 => exact fun _ _ _ h => h
      case hwa0 => rfl
      case hba0 => exact fun _ => rfl
      case hya0 => (skip; first | (go_simp; done) | (go_simp; with_reducible rfl))
      simp only [Act.put, List.setIfInBounds_toArray]
      refine' wpAnyHI_take (i := 1) (oi := _) (v := .func (.func 118) #[] #[]) rfl ?hia1 (by kernel_rfl) (by kernel_rfl) (by kernel_rfl) ?hqa1 (Or.inl ⟨?hwa1, fun w hSw => ?hya1⟩) ?hba1 hHeld ?hka1
      case hia1 => (first | rfl | (simp only [List.getElem?_toArray, List.getElem?_cons_succ, List.getElem?_cons_zero]; rfl))
      case hqa1 => exact fun _ _ _ h => h
      case hwa1 => rfl
      case hba1 => exact fun _ => rfl
      case hya1 => (have f0 := HCL.out w hSw _ _ HRB.out.2.2.2 HBS.out.f0; first | (go_simp; done) | (go_simp; with_reducible rfl))
      simp only [Act.put]
      refine' wpAnyHI_take (i := 2) (oi := _) (v := .agg #[.int .i64 A.k, .slice sa A.s.length cs, .slice ea A.e.length ce]) rfl ?hia2 (by kernel_rfl) (by kernel_rfl) (by kernel_rfl) ?hqa2 (Or.inl ⟨?hwa2, fun w hSw => ?hya2⟩) ?hba2 hHeld ?hka2
      case hia2 => (first | rfl | (simp only [List.getElem?_toArray, List.getElem?_cons_succ, List.getElem?_cons_zero]; rfl))
      case hqa2 => exact fun _ _ _ h => h
      case hwa2 => rfl
      case hba2 => exact fun _ => rfl
      case hya2 => ((have a0 := HCL.out w hSw _ _ HRB.out.1 HBS.out.a0; have a1 := HCL.out w hSw _ _ HRB.out.1 HBS.out.a1; have a2 := HCL.out w hSw _ _ HRB.out.1 HBS.out.a2); first | (go_simp; done) | (go_simp; with_reducible rfl))
      simp only [Act.put]
      refine' wpAnyHI_take (i := 3) (oi := _) (v := .int .i64 k) rfl ?hia3 (by kernel_rfl) (by kernel_rfl) (by kernel_rfl) ?hqa3 (Or.inl ⟨?hwa3, fun w hSw => ?hya3⟩) ?hba3 hHeld ?hka3
      case hia3 => (first | rfl | (simp only [List.getElem?_toArray, List.getElem?_cons_succ, List.getElem?_cons_zero]; rfl))
      case hqa3 => exact fun _ _ _ h => h
      case hwa3 => rfl
      case hba3 => exact fun _ => rfl
      case hya3 => (skip; first | (go_simp; done) | (go_simp; with_reducible rfl))
      simp only [Act.put]
      refine' wpAnyHI_take (i := 5) (oi := _) (v := .func (.func 118) #[] #[]) rfl ?hia5 (by kernel_rfl) (by kernel_rfl) (by kernel_rfl) ?hqa5 (Or.inl ⟨?hwa5, fun w hSw => ?hya5⟩) ?hba5 hHeld ?hka5
      case hia5 => (first | rfl | (simp only [List.getElem?_toArray, List.getElem?_cons_succ, List.getElem?_cons_zero]; rfl))
      case hqa5 => exact fun _ _ _ h => h
      case hwa5 => rfl
      case hba5 => exact fun _ => rfl
      case hya5 => (have f0 := HCL.out w hSw _ _ HRB.out.2.2.2 HBS.out.f0; first | (go_simp; done) | (go_simp; with_reducible rfl))
      simp only [Act.put]
      refine' wpAnyHI_take (i := 6) (oi := _) (v := .agg #[.int .i64 B.k, .slice ta B.s.length ct, .slice fa B.e.length cf]) rfl ?hia6 (by kernel_rfl) (by kernel_rfl) (by kernel_rfl) ?hqa6 (Or.inl ⟨?hwa6, fun w hSw => ?hya6⟩) ?hba6 hHeld ?hka6
      case hia6 => (first | rfl | (simp only [List.getElem?_toArray, List.getElem?_cons_succ, List.getElem?_cons_zero]; rfl))
      case hqa6 => exact fun _ _ _ h => h
      case hwa6 => rfl
      case hba6 => exact fun _ => rfl
      case hya6 => ((have a0 := HCL.out w hSw _ _ HRB.out.2.1 HBS.out.b0; have a1 := HCL.out w hSw _ _ HRB.out.2.1 HBS.out.b1; have a2 := HCL.out w hSw _ _ HRB.out.2.1 HBS.out.b2); first | (go_simp; done) | (go_simp; with_reducible rfl))
      simp only [Act.put]
      refine' wpAnyHI_take (i := 7) (oi := _) (v := .int .i64 k) rfl ?hia7 (by kernel_rfl) (by kernel_rfl) (by kernel_rfl) ?hqa7 (Or.inl ⟨?hwa7, fun w hSw => ?hya7⟩) ?hba7 hHeld ?hka7
      case hia7 => (first | rfl | (simp only [List.getElem?_toArray, List.getElem?_cons_succ, List.getElem?_cons_zero]; rfl))
      case hqa7 => exact fun _ _ _ h => h
      case hwa7 => rfl
      case hba7 => exact fun _ => rfl
      case hya7 => (skip; first | (go_simp; done) | (go_simp; with_reducible rfl))
      simp only [Act.put]
      refine wpAnyHI_one (i := 4) (by kernel_rfl) rfl (fun K hK => ?_)
      go_simp
      refine ⟨trivial, callsIn_wide.2 ((H1.out _ (Chg.refl _ _).drew).mono ?_)⟩
      rintro e9 w9 ⟨rfl, rfl⟩
      have hHeld : (fun W : World => ∀ q, R q → W.heap[q]? = w0.heap[q]?) (wr.drew.alloc (.cells #[.int .i64 A.k, .slice sa A.s.length cs, .slice ea A.e.length ce] 25)) := fun q hq => (((Chg.refl (fun _ => False) wr).drew.alloc _).block q (HSZ.out q hq) id).trans (hS0 q hq)
      refine hK.out _ _ hHeld ?_
      clear hK K
      refine wpAnyHI_one (i := 8) (by kernel_rfl) rfl (fun K hK => ?_)
      go_simp
      refine ⟨trivial, callsIn_wide.2 ((H2.out _ ((Chg.refl _ _).drew.alloc _)).mono ?_)⟩
      rintro e9 w9 ⟨rfl, rfl⟩
      have hHeld : (fun W : World => ∀ q, R q → W.heap[q]? = w0.heap[q]?) _ := HS1.out
      refine hK.out _ _ hHeld ?_
      clear hK K
      refine' wpAnyHI_take (i := 9) (oi := _) (v := .agg #[.int .i64 xa, .int .i64 xb]) rfl ?hib9 (by kernel_rfl) (by kernel_rfl) (by kernel_rfl) ?hqb9 (Or.inl ⟨?hwb9, fun w hSw => ?hyb9⟩) ?hbb9 hHeld ?hkb9
      case hib9 => (first | rfl | (simp only [List.getElem?_toArray, List.getElem?_cons_succ, List.getElem?_cons_zero]; rfl))
      case hqb9 => exact fun _ _ _ h => h
      case hwb9 => rfl
      case hbb9 => exact fun _ => rfl
      case hyb9 => (skip; first | (go_simp; done) | (go_simp; with_reducible rfl))
      simp only [Act.put]
      refine wpAnyHI_one (i := 10) (by kernel_rfl) rfl (fun K hK => ?_)
      go_simp
      with_reducible refine hRd'.mono ?_
      rintro e9 W3 ⟨bb, rfl, ht, hf⟩
      have hHeld : (fun W : World => ∀ q, R q → W.heap[q]? = w0.heap[q]?) W3 := by
        cases bb with
        | false => exact HJX.out _ _ (hf rfl)
        | true => exact fun q hq => ((ht rfl).2.same q hq).trans (HS1.out q hq)
      refine hK.out _ _ hHeld ?_
      clear hK K
      refine' wpAnyHI_take (i := 11) (oi := _) (v := .bool (!bb)) rfl ?hic11 (by kernel_rfl) (by kernel_rfl) (by kernel_rfl) ?hqc11 (Or.inl ⟨?hwc11, fun w hSw => ?hyc11⟩) ?hbc11 hHeld ?hkc11
      case hic11 => (first | rfl | (simp only [List.getElem?_toArray, List.getElem?_cons_succ, List.getElem?_cons_zero]; rfl))
      case hqc11 => exact fun _ _ _ h => h
      case hwc11 => rfl
      case hbc11 => exact fun _ => rfl
      case hyc11 => (skip; first | (go_simp; done) | (go_simp; with_reducible rfl))
      simp only [Act.put]
      refine wpAnyHI_done (by kernel_rfl) ?_ _
      cases bb with
      | true =>
        obtain ⟨ht1, ht2⟩ := ht rfl
        have HT := Lib.hid ht1
        have HHD := Lib.hid hHeld
        clear ht ht1 ht2 hf hHeld hRd' hy
        gi_wp2
        have hk3 : k + 1 ≤ n := hltH.out
        refine ⟨⟨k + 1, hk3, rfl, (by rw [HN.out]; exact HT.out), HHD.out⟩, ?_⟩
        simp only [intOf]
        omega
      | false =>
        have hf1 := hf rfl
        have HF := Lib.hid hf1
        clear ht hf hf1 hHeld hRd' hy
        gi_wp2
        refine bodyPost_ret (results_none rfl _ _ _) rfl ?_
        refine ⟨⟨_, rfl⟩, .inr ⟨(prL A B n).take (k + 1), ⟨k, hltH.out, rfl⟩, ?_⟩⟩
        rw [HN.out]
        exact HF.out
    · obtain rfl : k = n := by omega
      rw [List.take_of_length_le (by simp [prL])] at hJs
      gi_wp2
      go_end0
      exact ⟨⟨_, rfl⟩, .inl ⟨_, rfl, hJs⟩⟩
end Go.Proofs.Ytjmlekdgipinfaa
