/- pick: the plain law of vectors, indexed, and of their grades; iota; contracts for vectors. -/
import Derived.Test.YtnjnajbdpaaikaaPlH
import Derived.Test.YtnjnajbdpaaikaaPkH
import Derived.Test.YtnjnajbdpaaikaaPnB
namespace Go.Proofs.Ytnjnajbdpaaikaa
section
open Go.RowKit Go.Shelf
def vecB (l : List Int) : Ar := ⟨1, [(l.length : Int)], l⟩
theorem shB_one {n : Nat} (h : n ≤ 4096) : shB [(n : Int)] = true := by
  rw [shB_iff]
  refine ⟨by simp, ?_, ?_⟩
  · intro l hl
    rw [List.mem_singleton] at hl
    omega
  · simp [prodL]; omega
theorem prodL_one (x : Int) : prodL [x] = x := by simp [prodL]
theorem chk_vec {l : List Int} (h : l.length ≤ 4096) : chkB (vecB l) = true := by
  rw [chkB_iff]
  exact ⟨shB_one h, by rw [vecB, prodL_one], kndB_iff.2 (.inl rfl)⟩
theorem getD_at {l : List Int} {i : Nat} (h : i < l.length) : l.getD i 0 = l[i] := by simp [h]
theorem chk_len {A : Ar} (h : chkB A = true) : A.e.length ≤ 4096 ∧ (A.k = 1 ∨ A.k = 2) := by
  obtain ⟨h1, h2, h3⟩ := chkB_iff.1 h
  have := (shB_iff.1 h1).2.2
  refine ⟨by omega, ?_⟩
  rcases kndB_iff.1 h3 with h | h
  · exact .inl h
  · exact .inr h.1
/-- What comes of arrays of one kind by a way that leads to elements, or to none. -/
theorem go_law {k : Int} {s : List Int} {g : List (Int × Int)} {L : List Ar} (hk : k = 1 ∨ k = 2) (hL : ∀ B ∈ L, chkB B = true ∧ B.k = k) (hs : shB s = true) (hl : (g.length : Int) = prodL s)
    (hg : ∀ x ∈ g, x.1 = -1 ∨ ∃ (i : Nat) (B : Ar), L[i]? = some B ∧ x.1 = i ∧ 0 ≤ x.2 ∧ x.2 < B.e.length) : goN k s g L = 0 ∧ goA k s g L = ⟨k, s, g.map (pickL k L)⟩ := by
  have hany : g.any (badL L) = false := by
    rw [List.any_eq_false]
    intro x hx
    rcases hg x hx with h | ⟨i, B, hB, h1, h2, h3⟩
    · simp [badL, h]
    · obtain ⟨hi, hB2⟩ := List.getElem?_eq_some_iff.1 hB
      simp [badL, h1, List.getD, hB]
      omega
  have hc : chkB (⟨k, s, g.map (pickL k L)⟩ : Ar) = true := by
    rw [chkB_iff]
    refine ⟨hs, by simp only [List.length_map]; exact hl.symm, ?_⟩
    rw [kndB_iff]
    rcases hk with rfl | rfl
    · exact .inl rfl
    · refine .inr ⟨rfl, fun c hc => ?_⟩
      obtain ⟨x, hx, rfl⟩ := List.mem_map.1 hc
      rcases hg x hx with h | ⟨i, B, hB, h1, h2, h3⟩
      · rw [pickL, if_pos h]
        decide
      · rw [pickL, if_neg (by omega), h1]
        have hm := hL B (List.mem_of_getElem? hB)
        rcases kndB_iff.1 (chkB_iff.1 hm.1).2.2 with h | h
        · rw [hm.2] at h
          exact absurd h (by decide)
        · simp only [Int.toNat_natCast, List.getD, hB, Option.getD_some]
          have h4 : x.2.toNat < B.e.length := by omega
          rw [List.getElem?_eq_getElem h4, Option.getD_some]
          exact h.2 _ (List.getElem_mem h4)
  have hN : goN k s g L = 0 := by
    unfold goN
    rw [if_pos hk, hany, if_neg (by decide), chkE_zero]
    exact hc
  exact ⟨hN, goA_ok hN⟩
def ixV (e z : List Int) : List Int := z.map (fun x => e.getD (x - 1).toNat 0)
theorem ixV_length (e z : List Int) : (ixV e z).length = z.length := by simp [ixV]
theorem vec_shape {A : Ar} (hA : chkB A = true) (h1 : A.s.length = 1) : A.s = [(A.e.length : Int)] := by
  obtain ⟨_, h2, _⟩ := chkB_iff.1 hA
  match hs : A.s, h1 with
  | [x], _ => rw [hs, prodL_one] at h2; rw [h2]
/-- A vector, indexed by a vector of its places. -/
theorem ix_law {A : Ar} {z : List Int} (hA : chkB A = true) (h1 : A.s.length = 1) (hz : z.length ≤ 4096) (hb : ∀ x ∈ z, 1 ≤ x ∧ x ≤ A.e.length) : pgN (ixW A.s [⟨false, vecB z⟩]) A = 0 ∧ pgA (ixW A.s [⟨false, vecB z⟩]) A = ⟨A.k, [(z.length : Int)], ixV A.e z⟩ := by
  have hs := vec_shape hA h1
  have hS : ixS A.s [⟨false, vecB z⟩] = [(z.length : Int)] := by rw [hs]; rfl
  have hE : ixE A.s [⟨false, vecB z⟩] = 0 := by
    unfold ixE
    rw [(chkB_iff.1 hA).1, if_pos rfl]
    have h2 : ([⟨false, vecB z⟩] : List Ax).all axB = true := by simp [axB, chk_vec hz]
    have h3 : ([⟨false, vecB z⟩] : List Ax).any (fun x => !x.all && decide (x.a.k = 2)) = false := by simp [vecB]
    have h4 : rgtL A.s [⟨false, vecB z⟩] = true := by
      rw [hs]
      simp only [rgtL, rgtB, Bool.false_or, Bool.and_true, Bool.not_eq_true', List.any_eq_false, Bool.or_eq_true, decide_eq_true_eq, vecB]
      intro x hx
      have := hb x hx
      omega
    rw [if_pos h2, if_pos (by rw [h1]; rfl), if_neg (by rw [h3]; decide), hS, if_pos (shB_one hz), if_pos h4]
  have hW : ixW A.s [⟨false, vecB z⟩] = ⟨[(z.length : Int)], (List.range z.length).map (fun (i : Nat) => ((0 : Int), z.getD i 0 - 1)), 0⟩ := by
    unfold ixW
    rw [if_pos hE, hS, prodL_one]
    congr 1
    apply List.map_congr_left
    intro i hi
    have hi' : i < z.length := by simpa using hi
    have hzl : ¬ (z.length : Int) = 0 := by omega
    rw [hs]
    simp only [ixP, plc, mny, vecB, ixS, prodL, Int.ediv_one, Int.mul_one, Int.add_zero, Bool.false_eq_true, if_false]
    rw [Int.emod_eq_of_lt (by omega) (by omega), Int.toNat_natCast]
  obtain ⟨h4096, hk⟩ := chk_len hA
  have hgl := go_law (k := A.k) (s := [(z.length : Int)]) (g := (List.range z.length).map (fun (i : Nat) => ((0 : Int), z.getD i 0 - 1))) (L := [A]) hk (by simp [hA]) (shB_one hz) (by simp [prodL_one]) (by
    intro x hx
    obtain ⟨i, hi, rfl⟩ := List.mem_map.1 hx
    have hi' : i < z.length := by simpa using hi
    have := hb _ (List.getElem_mem hi')
    refine .inr ⟨0, A, rfl, rfl, ?_, ?_⟩ <;> simp only [getD_at hi'] <;> omega)
  unfold pgN pgA
  rw [hA, hW]
  simp only [if_true]
  refine ⟨hgl.1, ?_⟩
  rw [hgl.2]
  congr 1
  unfold ixV
  apply List.ext_getElem
  · simp
  · intro i h2 h3
    have hi' : i < z.length := by simpa using h3
    simp [pickL, hi']
theorem okS_mem {K : Int → Int} {Z : List Int} (h : OkS K 0 Z) : ∀ x ∈ Z, 1 ≤ x ∧ x ≤ Z.length := by
  intro x hx
  have := h.bd x hx
  omega
theorem ixV_iota (e : List Int) : ixV e (iotaS 0 e.length) = e := by
  unfold ixV iotaS
  apply List.ext_getElem
  · simp
  · intro i h1 h2
    simp [h2]
theorem ixV_ixV (e a b : List Int) (hb : ∀ x ∈ b, 1 ≤ x ∧ x ≤ a.length) : ixV (ixV e a) b = ixV e (ixV a b) := by
  unfold ixV
  rw [List.map_map]
  apply List.map_congr_left
  intro x hx
  have h1 := hb x hx
  obtain ⟨k, rfl⟩ : ∃ k : Nat, x = (k : Int) + 1 := ⟨(x - 1).toNat, by omega⟩
  have h2 : k < a.length := by omega
  simp [h2]
theorem ixV_perm {Z Y : List Int} (h : Y.Perm (iotaS 0 Z.length)) : (ixV Z Y).Perm Z := by
  have h2 := h.map (fun x => Z.getD (x - 1).toNat 0)
  have h3 := ixV_iota Z
  unfold ixV at h3 ⊢
  rw [h3] at h2
  exact h2
theorem srt_id {l : List Int} (h : l.Pairwise (· < ·)) : Srt (fun x => x) l := h.imp fun h => .inl h
/-- A grade, graded, undoes it. -/
theorem gr_gr {e Z Y : List Int} {down : Bool} (hZ : OkS (keyK e down) 0 Z) (hl : Z.length = e.length) (hY : OkS (keyK Z false) 0 Y) (hy : Y.length = Z.length) : ixV (ixV e Z) Y = e := by
  have hYm := okS_mem hY
  rw [hy] at hYm
  rw [ixV_ixV e Z Y hYm]
  have hP : Y.Perm (iotaS 0 Z.length) := by have := hY.1; rw [hy] at this; exact this
  have hp := ixV_perm hP
  have hzi : Z.Perm (iotaS 0 Z.length) := hZ.1
  have h2 : (ixV Z Y).Perm (iotaS 0 Z.length) := hp.trans hzi
  have hnd : (ixV Z Y).Pairwise (fun a b => a ≤ b) := by
    unfold ixV
    rw [List.pairwise_map]
    refine hY.2.imp ?_
    intro a b h
    unfold Lo keyK at h
    simp only [Bool.false_eq_true, if_false] at h
    rcases h with h | h
    · exact Int.le_of_lt h
    · exact Int.le_of_eq h.1
  have hnn : (ixV Z Y).Nodup := by
    rw [h2.nodup_iff]
    exact (iotaS_lt 0 Z.length).imp fun h => by omega
  have hs : Srt (fun x => x) (ixV Z Y) := by
    refine (List.Pairwise.and hnd hnn).imp ?_
    intro a b h
    exact .inl (Int.lt_iff_le_and_ne.2 ⟨h.1, h.2⟩)
  rw [srt_eq h2 hs (srt_id (iotaS_lt 0 Z.length)), hl]
  exact ixV_iota e
theorem iotaS_at {n i : Nat} (h : i < (iotaS 0 n).length) : (iotaS 0 n)[i] = (i : Int) + 1 := by
  have h2 : i < n := by rwa [iotaS_length] at h
  have := iotaS_get 0 n i h2
  rw [List.getElem?_eq_getElem h] at this
  simpa using this
/-- The grade of what is graded. -/
theorem gr_again {e Z : List Int} {down : Bool} (hZ : OkS (keyK e down) 0 Z) (hl : Z.length = e.length) : OkS (keyK (ixV e Z) down) 0 (iotaS 0 e.length) := by
  refine ⟨by rw [iotaS_length]; exact List.Perm.refl _, ?_⟩
  unfold Srt
  rw [List.pairwise_iff_getElem]
  intro i j hi hj hij
  rw [iotaS_at hi, iotaS_at hj]
  have hj2 : j < Z.length := by rw [hl]; rwa [iotaS_length] at hj
  have hi2 : i < Z.length := by omega
  have h := (List.pairwise_iff_getElem.1 hZ.2) i j hi2 hj2 hij
  have key : ∀ k (hk : k < Z.length), keyK (ixV e Z) down ((k : Int) + 1) = keyK e down Z[k] := by
    intro k hk
    unfold keyK ixV
    simp [hk]
  unfold Lo at h ⊢
  rw [key i hi2, key j hj2]
  rcases h with h | h
  · exact .inl h
  · exact .inr ⟨h.1, by omega⟩
theorem iota_vec (n : Nat) : iotaS 0 n = (List.range n).map fun (i : Nat) => (i : Int) + 1 := by
  unfold iotaS
  rw [List.range_eq_range']
end
section
open Go.RowKit Go.Shelf
theorem mwrap {x : Int} (h : -9223372036854775808 ≤ x ∧ x ≤ 9223372036854775807) : wrap64 x = x := by
  rw [show wrap64 x = IntKind.i64.wrap x by rw [IntKind.wrap_i64, wrap64]]
  exact IntWalk.i64_in _ (by omega)
theorem iota1_any (i : Int) (w : World) (hi : 0 ≤ i ∧ i ≤ 4096) : Calls Try.prog 83 #[.int .i64 i] w (fun e w' => e = .returned (.int .i64 (i + 1)) ∧ w' = w) := by
  have v1 : wrap64 (i + 1) = i + 1 := mwrap (by omega)
  have w1 : IntKind.i64.wrap i = i := IntWalk.i64_in _ (by omega)
  have w2 : IntKind.i64.wrap (i + 1) = i + 1 := IntWalk.i64_in _ (by omega)
  clear hi
  go_enter Try.func83, Try.ntmps83
  go_wp2
  go_ret
  exact ⟨rfl, rfl⟩
theorem enters_iota1 : ∀ args w, (callFunc 83 args).run Try.prog w = .ok (.enter 83 args) w := enters_of Try.func83 (by kernel_rfl) rfl
theorem make_iota (v : Value) (n : Nat) (w : World) (hS : Ls w v [(n : Int)]) (hn : n ≤ 4096) : Calls Try.prog 51 #[.int .i64 1, v, .func (.func 83) #[] #[]] w (GaveAE w (vecB ((List.range n).map fun (i : Nat) => (i : Int) + 1)) 0) := by
  have h := make_any v [(n : Int)] n 83 #[] (fun i => (i : Int) + 1) w hS (shB_one hn) (prodL_one _) ⟨enters_iota1, fun i hi w' h => (iota1_any (i : Int) w' (by omega)).mono fun _ _ h => ⟨h.1, by rw [h.2]; exact Chg.refl _ _⟩⟩
  unfold vecB
  rw [List.length_map, List.length_range]
  exact h
def iotE (A : Ar) : Int := if chkB A then (if 0 < A.s.length then 3 else if A.k = 2 ∨ A.e.headD 0 < 0 then 5 else if 4096 < A.e.headD 0 then 9 else 0) else 110
def iotV (n : Int) : List Int := (List.range n.toNat).map fun (i : Nat) => (i : Int) + 1
def iotA (A : Ar) : Ar := if iotE A = 0 then vecB (iotV (A.e.headD 0)) else noA
set_option maxRecDepth 100000 in
set_option maxHeartbeats 2000000 in
theorem iota_any (u : Value) (A : Ar) (w : World) (hA : Ara w u A) (hle : A.e.length ≤ 1000000) : Calls Try.prog 42 #[u] w (GaveAE w (iotA A) (iotE A)) := by
  have hA' := hA
  obtain ⟨k, t, e⟩ := A
  obtain ⟨vt, ve, rfl, ht, he⟩ := hA
  simp only at ht he hle
  obtain ⟨ta, ct, rfl, _⟩ := ht.form
  obtain ⟨ae, ce, rfl, _⟩ := he.form
  have hC0 := ((Chg.refl (fun _ => False) w).alloc (.cells #[.int .i64 k, .slice ta t.length ct, .slice ae e.length ce] 25)).alloc (.cells #[.int .i64 0, .slice none 0 0, .slice none 0 0] 25)
  have hK1 := (Chg.refl (fun _ => False) (w.alloc (.cells #[.int .i64 k, .slice ta t.length ct, .slice ae e.length ce] 25))).alloc (.cells #[.int .i64 0, .slice none 0 0, .slice none 0 0] 25)
  obtain ⟨y0, y1, y2⟩ := cell_two w (.int .i64 k) (.slice ta t.length ct) (.slice ae e.length ce) 25
  have hB0 := Bx.new (w.alloc (.cells #[.int .i64 k, .slice ta t.length ct, .slice ae e.length ce] 25)) (.int .i64 0) (.slice none 0 0) (.slice none 0 0) 25
  rw [World.size_alloc] at hB0
  replace y0 := hK1.cell y0 id
  replace y1 := hK1.cell y1 id
  replace y2 := hK1.cell y2 id
  have hck := check_any _ ⟨k, t, e⟩ _ (hA'.fr hC0) hle
  have HC := Lib.hid hC0
  have HE := Lib.hid he
  clear hA' ht he hC0 hK1 hle
  cases hca : chkB ⟨k, t, e⟩ with
  | false =>
    have HR := Lib.hid (show iotA ⟨k, t, e⟩ = noA ∧ iotE ⟨k, t, e⟩ = 110 by unfold iotA iotE; rw [hca]; exact ⟨rfl, rfl⟩)
    rw [show chkE ⟨k, t, e⟩ = 110 by unfold chkE; rw [hca]; rfl] at hck
    clear hca
    go_enter Try.func42, Try.ntmps42
    go_wp2_with fail
    refine hck.mono ?_
    clear hck
    rintro e9 w1 ⟨rfl, hC1⟩
    replace y0 := hC1.cell y0 id
    replace y1 := hC1.cell y1 id
    replace y2 := hC1.cell y2 id
    obtain ⟨z0, z1, z2, f0, f1, f2⟩ := hB0.fr hC1
    replace HC := Lib.hid (HC.out.tr hC1)
    skip
    clear hC1 hB0
    obtain ⟨⟨g0, g1⟩, g2⟩ := set3_cells (.int .i64 0) (.slice none 0 0) (.slice none 0 0) z0 z1 z2
    go_wp2
    simp [bodyPost, results, Try.results42, go_sem, g0, g1, g2]
    rw [HR.out.1, HR.out.2]
    exact leaveNo (Nat.le_succ _) HC.out
  | true =>
    have hI : iotE ⟨k, t, e⟩ = if 0 < t.length then 3 else if k = 2 ∨ e.headD 0 < 0 then 5 else if 4096 < e.headD 0 then 9 else 0 := by unfold iotE; rw [hca]; rfl
    rw [show chkE ⟨k, t, e⟩ = 0 by unfold chkE; rw [hca]; rfl] at hck
    have hp := (chkB_iff.1 hca).2.1
    have hkk := (chk_len hca).2
    simp only at hp hkk
    clear hca
    by_cases ht0 : 0 < t.length
    · rw [if_pos ht0] at hI
      have HR := Lib.hid (show iotA ⟨k, t, e⟩ = noA ∧ iotE ⟨k, t, e⟩ = 3 from ⟨by unfold iotA; rw [hI]; rfl, hI⟩)
      have d1 : decide ((0 : Int) < (t.length : Int)) = true := decide_eq_true (by omega)
      clear hI hp hkk
      go_enter Try.func42, Try.ntmps42
      go_wp2_with fail
      refine hck.mono ?_
      clear hck
      rintro e9 w1 ⟨rfl, hC1⟩
      replace y0 := hC1.cell y0 id
      replace y1 := hC1.cell y1 id
      replace y2 := hC1.cell y2 id
      obtain ⟨z0, z1, z2, f0, f1, f2⟩ := hB0.fr hC1
      replace HC := Lib.hid (HC.out.tr hC1)
      skip
      clear hC1 hB0
      obtain ⟨⟨g0, g1⟩, g2⟩ := set3_cells (.int .i64 0) (.slice none 0 0) (.slice none 0 0) z0 z1 z2
      go_wp2
      simp [bodyPost, results, Try.results42, go_sem, g0, g1, g2]
      rw [HR.out.1, HR.out.2]
      exact leaveNo (Nat.le_succ _) HC.out
    · rw [if_neg ht0] at hI
      have ht1 : t = [] := List.eq_nil_of_length_eq_zero (by omega)
      subst ht1
      simp only [prodL] at hp
      obtain ⟨x, rfl⟩ : ∃ x, e = [x] := by
        cases e with
        | nil => simp at hp
        | cons x r =>
          cases r with
          | nil => exact ⟨x, rfl⟩
          | cons y q => simp at hp; omega
      replace hI : iotE ⟨k, [], [x]⟩ = if k = 2 ∨ x < 0 then 5 else if 4096 < x then 9 else 0 := hI
      simp only [List.length_cons, List.length_nil, Nat.zero_add] at y1 y2 hck ⊢
      clear hp ht0
      obtain ⟨bb, o, cc, e1, hx⟩ := HE.out.at (j := 0) (by simp)
      simp only [List.length_cons, List.length_nil, Nat.zero_add] at e1
      injection e1 with e1 e2 e3
      subst e1
      clear e2 e3
      rw [Nat.add_zero, List.getElem_cons_zero] at hx
      have HX := Lib.hid hx
      by_cases hk2 : k = 2
      · rw [if_pos (.inl hk2)] at hI
        have HR := Lib.hid (show iotA ⟨k, [], [x]⟩ = noA ∧ iotE ⟨k, [], [x]⟩ = 5 from ⟨by unfold iotA; rw [hI]; rfl, hI⟩)
        subst hk2
        clear hI hx hkk
        go_enter Try.func42, Try.ntmps42
        go_wp2_with fail
        refine hck.mono ?_
        clear hck
        rintro e9 w1 ⟨rfl, hC1⟩
        replace y0 := hC1.cell y0 id
        replace y1 := hC1.cell y1 id
        replace y2 := hC1.cell y2 id
        obtain ⟨z0, z1, z2, f0, f1, f2⟩ := hB0.fr hC1
        replace HC := Lib.hid (HC.out.tr hC1)
        skip
        clear hC1 hB0
        obtain ⟨⟨g0, g1⟩, g2⟩ := set3_cells (.int .i64 0) (.slice none 0 0) (.slice none 0 0) z0 z1 z2
        go_wp2
        simp [bodyPost, results, Try.results42, go_sem, g0, g1, g2]
        rw [HR.out.1, HR.out.2]
        exact leaveNo (Nat.le_succ _) HC.out
      · have b1 : (k == 2) = false := beq_eq_false_iff_ne.2 hk2
        by_cases hx0 : x < 0
        · rw [if_pos (.inr hx0)] at hI
          have HR := Lib.hid (show iotA ⟨k, [], [x]⟩ = noA ∧ iotE ⟨k, [], [x]⟩ = 5 from ⟨by unfold iotA; rw [hI]; rfl, hI⟩)
          have d1 : decide (x < 0) = true := decide_eq_true hx0
          clear hI hx hkk
          go_enter Try.func42, Try.ntmps42
          go_wp2_with fail
          refine hck.mono ?_
          clear hck
          rintro e9 w1 ⟨rfl, hC1⟩
          replace y0 := hC1.cell y0 id
          replace y1 := hC1.cell y1 id
          replace y2 := hC1.cell y2 id
          obtain ⟨z0, z1, z2, f0, f1, f2⟩ := hB0.fr hC1
          replace HC := Lib.hid (HC.out.tr hC1)
          (have hx := HC.out.cell HX.out id)
          clear hC1 hB0
          obtain ⟨⟨g0, g1⟩, g2⟩ := set3_cells (.int .i64 0) (.slice none 0 0) (.slice none 0 0) z0 z1 z2
          go_wp2
          simp [bodyPost, results, Try.results42, go_sem, g0, g1, g2]
          rw [HR.out.1, HR.out.2]
          exact leaveNo (Nat.le_succ _) HC.out
        · have d1 : decide (x < 0) = false := decide_eq_false hx0
          rw [if_neg (by omega)] at hI
          by_cases hx1 : 4096 < x
          · rw [if_pos hx1] at hI
            have HR := Lib.hid (show iotA ⟨k, [], [x]⟩ = noA ∧ iotE ⟨k, [], [x]⟩ = 9 from ⟨by unfold iotA; rw [hI]; rfl, hI⟩)
            have d2 : decide ((4096 : Int) < x) = true := decide_eq_true hx1
            clear hI hx hkk
            go_enter Try.func42, Try.ntmps42
            go_wp2_with fail
            refine hck.mono ?_
            clear hck
            rintro e9 w1 ⟨rfl, hC1⟩
            replace y0 := hC1.cell y0 id
            replace y1 := hC1.cell y1 id
            replace y2 := hC1.cell y2 id
            obtain ⟨z0, z1, z2, f0, f1, f2⟩ := hB0.fr hC1
            replace HC := Lib.hid (HC.out.tr hC1)
            (have hx := HC.out.cell HX.out id)
            clear hC1 hB0
            obtain ⟨⟨g0, g1⟩, g2⟩ := set3_cells (.int .i64 0) (.slice none 0 0) (.slice none 0 0) z0 z1 z2
            go_wp2
            simp [bodyPost, results, Try.results42, go_sem, g0, g1, g2]
            rw [HR.out.1, HR.out.2]
            exact leaveNo (Nat.le_succ _) HC.out
          · rw [if_neg hx1] at hI
            have HR := Lib.hid (show iotA ⟨k, [], [x]⟩ = vecB (iotV x) ∧ iotE ⟨k, [], [x]⟩ = 0 from ⟨by unfold iotA; rw [hI]; rfl, hI⟩)
            have d2 : decide ((4096 : Int) < x) = false := decide_eq_false hx1
            obtain ⟨n, rfl⟩ := Int.eq_ofNat_of_zero_le (show 0 ≤ x by omega)
            have w1 : IntKind.i64.wrap (n : Int) = (n : Int) := IntWalk.i64_in _ (by omega)
            have HN := Lib.hid (show n ≤ 4096 by omega)
            clear hI hx hkk hx0 hx1 hk2
            go_enter Try.func42, Try.ntmps42
            go_wp2_with fail
            refine hck.mono ?_
            clear hck
            rintro e9 w1 ⟨rfl, hC1⟩
            replace y0 := hC1.cell y0 id
            replace y1 := hC1.cell y1 id
            replace y2 := hC1.cell y2 id
            have hB1 := hB0.fr hC1
            replace HC := Lib.hid (HC.out.tr hC1)
            have hx := HC.out.cell HX.out id
            clear hC1 hB0
            have hCl := (Chg.refl (fun _ => False) w1).alloc (.cells #[.int .i64 n] 3)
            have hmk := make_iota _ n _ (own_lit w1 3 [(n : Int)] 1 rfl #[.int .i64 n] rfl (by simp)).ls HN.out
            go_wp2_with fail
            refine hmk.mono ?_
            clear hmk
            rintro e9 w4 ⟨v4, rfl, ho4, hC4⟩
            obtain ⟨a5, c5, a6, c6, hv4, q1, q2⟩ := ara_new ho4
            subst hv4
            generalize hXX : vecB ((List.range n).map fun (i : Nat) => (i : Int) + 1) = XX at *
            obtain ⟨z0, z1, z2, f0, f1, f2⟩ := (hB1.fr hCl).fr hC4
            obtain ⟨⟨g0, g1⟩, g2⟩ := set3_cells (.int .i64 XX.k) (.slice a5 XX.s.length c5) (.slice a6 XX.e.length c6) z0 z1 z2
            have HLT := Lib.hid (hB1.fr hCl).lt
            have HC4 := Lib.hid ((HC.out.tr hCl).tr hC4)
            have HXX := Lib.hid hXX
            clear hC4 ho4 hB1 hCl hXX
            go_wp2
            simp [bodyPost, results, Try.results42, go_sem, g0, g1, g2]
            rw [HR.out.1, HR.out.2, show vecB (iotV (n : Int)) = XX from HXX.out]
            show GaveAE w ⟨XX.k, XX.s, XX.e⟩ 0 _ _
            exact leaveAE q1 q2 (Nat.le_succ _) HLT.out HLT.out HC4.out
end
section
open Go.RowKit Go.Shelf
/-- A vector that may be. -/
structure Vec (A : Ar) : Prop where
  chk : chkB A = true
  one : A.s.length = 1
theorem Vec.len {A : Ar} (h : Vec A) : A.e.length ≤ 4096 := (chk_len h.chk).1
theorem Vec.sh {A : Ar} (h : Vec A) : A.s = [(A.e.length : Int)] := vec_shape h.chk h.one
theorem Vec.vecE {A : Ar} (h : Vec A) : vecE A = 0 := by unfold Go.Proofs.Ytnjnajbdpaaikaa.vecE; rw [if_pos h.chk, if_pos h.one]
theorem Vec.num {A : Ar} (h : Vec A) {z : List Int} (hz : z.length = A.e.length) : Vec ⟨1, A.s, z⟩ := ⟨by rw [chkB_iff]; exact ⟨(chkB_iff.1 h.chk).1, by rw [hz]; exact (chkB_iff.1 h.chk).2.1, kndB_iff.2 (.inl rfl)⟩, h.one⟩
theorem ixV_mem {e z : List Int} (hz : ∀ x ∈ z, 1 ≤ x ∧ x ≤ e.length) : ∀ c ∈ ixV e z, c ∈ e := by
  intro c hc
  obtain ⟨x, hx, rfl⟩ := List.mem_map.1 hc
  have := hz x hx
  have h2 : (x - 1).toNat < e.length := by omega
  simp only [List.getD, List.getElem?_eq_getElem h2, Option.getD_some]
  exact List.getElem_mem h2
theorem Vec.ix {A : Ar} (h : Vec A) {z : List Int} (hl : z.length = A.e.length) (hz : ∀ x ∈ z, 1 ≤ x ∧ x ≤ A.e.length) : Vec ⟨A.k, A.s, ixV A.e z⟩ := by
  refine ⟨?_, h.one⟩
  obtain ⟨h1, h2, h3⟩ := chkB_iff.1 h.chk
  rw [chkB_iff]
  refine ⟨h1, by rw [ixV_length, hl]; exact h2, kndB_iff.2 ?_⟩
  rcases kndB_iff.1 h3 with h4 | h4
  · exact .inl h4
  · exact .inr ⟨h4.1, fun c hc => h4.2 c (ixV_mem hz c hc)⟩
def GaveGz (w : World) (A : Ar) (down : Bool) (e : Ending) (w' : World) : Prop := ∃ Z, (OkS (keyK A.e down) 0 Z ∧ Z.length = A.e.length) ∧ GaveAE w ⟨1, A.s, Z⟩ 0 e w'
theorem grC (u : Value) (A : Ar) (down : Bool) (w : World) (hA : Ara w u A) (h : Vec A) : Calls Try.prog 28 #[u, .bool down] w (GaveGz w A down) :=
  (grade_any u A down w hA (by have := h.len; omega)).mono fun e w' hg => by
    obtain ⟨Z, hZ, hg⟩ := hg
    rw [if_pos h.vecE, h.vecE] at hg
    exact ⟨Z, hZ h.vecE, hg⟩
theorem grK (u : Value) (A : Ar) (down : Bool) (Z : List Int) (w : World) (hA : Ara w u A) (h : Vec A) (hZ : OkS (keyK A.e down) 0 Z) (hl : Z.length = A.e.length) : Calls Try.prog 28 #[u, .bool down] w (GaveAE w ⟨1, A.s, Z⟩ 0) :=
  (grade_any u A down w hA (by have := h.len; omega)).mono fun _ _ hg => gr_known hg h.vecE hZ hl
theorem ixC (u v : Value) (A : Ar) (S z : List Int) (w : World) (hA : Ara w u A) (hL : Axs w v [⟨false, ⟨1, S, z⟩⟩]) (h : Vec A) (hS : S = A.s) (hl : z.length = A.e.length) (hz : ∀ x ∈ z, 1 ≤ x ∧ x ≤ A.e.length) : Calls Try.prog 16 #[u, v] w (GaveAE w ⟨A.k, A.s, ixV A.e z⟩ 0) := by
  have hm := h.len
  have hi := index_any u v A [⟨false, ⟨1, S, z⟩⟩] w hA hL (by omega) (by intro x hx; rw [List.mem_singleton.1 hx]; show z.length ≤ _; omega) (by simp)
  have hlw := ix_law h.chk h.one (z := z) (by omega) hz
  have hv : (⟨1, S, z⟩ : Ar) = vecB z := by unfold vecB; rw [hS, h.sh, hl]
  rw [hv, hlw.1, hlw.2, hl, ← h.sh] at hi
  exact hi
theorem iotaC (u : Value) (n : Nat) (w : World) (hA : Ara w u ⟨1, [], [(n : Int)]⟩) (hn : n ≤ 4096) : Calls Try.prog 42 #[u] w (GaveAE w (vecB (iotaS 0 n)) 0) := by
  have h := iota_any u ⟨1, [], [(n : Int)]⟩ w hA (by simp)
  have hc : chkB ⟨1, [], [(n : Int)]⟩ = true := by rw [chkB_iff]; exact ⟨(by decide : shB [] = true), by simp [prodL], kndB_iff.2 (.inl rfl)⟩
  have hE : iotE ⟨1, [], [(n : Int)]⟩ = 0 := by
    unfold iotE
    rw [if_pos hc]
    simp
    omega
  have hI : iotA ⟨1, [], [(n : Int)]⟩ = vecB (iotaS 0 n) := by
    unfold iotA
    rw [if_pos hE, iota_vec]
    rfl
  rw [hE, hI] at h
  exact h
theorem isC (u v : Value) (A : Ar) (w : World) (hA : Ara w u A) (hB : Ara w v A) (hle : A.e.length ≤ 1000000 ∧ A.s.length ≤ 1000000) : Calls Try.prog 24 #[u, .int .i64 0, v] w (GaveBo w true) := by
  have h := is_any u v A A 0 w hA hB hle.1 hle.2
  rw [isB_iff.2 ⟨rfl, rfl⟩] at h
  exact h
end
end Go.Proofs.Ytnjnajbdpaaikaa
