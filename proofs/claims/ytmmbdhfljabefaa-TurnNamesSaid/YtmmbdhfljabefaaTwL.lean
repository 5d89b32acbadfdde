/- TurnNames: the examples of the chapter, and each error. -/
import Derived.Test.YtmmbdhfljabefaaTwI
import Derived.Test.YtmmbdhfljabefaaArU
import Derived.Test.YtmmbdhfljabefaaArV
namespace Go.Proofs.Ytmmbdhfljabefaa
open Go.RowKit Go.Shelf

def AllB (w : World) (l : List (Nat × Ar)) : Prop := ∀ p ∈ l, BoxA w p.1 p.2
theorem AllB.fr {w w' : World} {l : List (Nat × Ar)} (h : AllB w l) (hC : Chg (fun _ => False) w w') : AllB w' l := fun p hp => (h p hp).fr hC
theorem AllB.cons {w : World} {l : List (Nat × Ar)} {x : Nat} {A : Ar} (h : AllB w l) (hb : BoxA w x A) : AllB w ((x, A) :: l) := fun p hp => by
  rcases List.mem_cons.1 hp with rfl | hp
  · exact hb
  · exact h p hp
theorem lit_ls (W : World) (t : TypeId) (xs : List Int) (n : Nat) (hn : xs.length = n) (cs : Array Value) (hc : cs = (xs.map I).toArray) (hm : xs.length ≤ 1000000) : Ls (W.alloc (.cells cs t)) (.slice (some ⟨W.heap.size, 0, none⟩) n n) xs := (own_lit W t xs n hn cs hc hm).ls
def nV : Ar := ⟨1, [3], [1, 2, 3]⟩
def nM : Ar := ⟨1, [2, 2], [1, 2, 3, 4]⟩
def nA : Ar := ⟨1, [3], [3, 1, 2]⟩
def nB : Ar := ⟨1, [3], [2, 3, 1]⟩
def nC : Ar := ⟨1, [2, 2], [1, 2, 4, 3]⟩
def nD : Ar := ⟨1, [2, 2], [1, 3, 2, 4]⟩
def nF : Ar := ⟨1, [], [9]⟩
def nG : Ar := ⟨1, [0], []⟩
def nH : Ar := ⟨1, [], [7]⟩
def nK : Ar := ⟨2, [2], [98, 97]⟩
def nAB : Ar := ⟨2, [2], [97, 98]⟩
def nO : Ar := ⟨0, [], []⟩
theorem n3 (u v : Value) (w : World) (hu : Ara w u ⟨1, [], [-1]⟩) (hv : Ara w v nV) : Calls Try.prog 30 #[u, v] w (GaveAE w nA 0) := by
  have h := trot_any u v ⟨1, [], [-1]⟩ nV w hu hv (by decide) (by decide) (by decide) (by decide)
  rw [show tgA (rotW ⟨1, [], [-1]⟩ nV.s) nV = nA from by rfl, show tgN (rotW ⟨1, [], [-1]⟩ nV.s) nV = 0 from by rfl] at h
  exact h
theorem n4 (u v : Value) (w : World) (hu : Ara w u ⟨1, [], [-9223372036854775808]⟩) (hv : Ara w v nV) : Calls Try.prog 30 #[u, v] w (GaveAE w nB 0) := by
  have h := trot_any u v ⟨1, [], [-9223372036854775808]⟩ nV w hu hv (by decide) (by decide) (by decide) (by decide)
  rw [show tgA (rotW ⟨1, [], [-9223372036854775808]⟩ nV.s) nV = nB from by rfl, show tgN (rotW ⟨1, [], [-9223372036854775808]⟩ nV.s) nV = 0 from by rfl] at h
  exact h
theorem n5 (u v : Value) (w : World) (hu : Ara w u ⟨1, [2], [0, 1]⟩) (hv : Ara w v nM) : Calls Try.prog 30 #[u, v] w (GaveAE w nC 0) := by
  have h := trot_any u v ⟨1, [2], [0, 1]⟩ nM w hu hv (by decide) (by decide) (by decide) (by decide)
  rw [show tgA (rotW ⟨1, [2], [0, 1]⟩ nM.s) nM = nC from by rfl, show tgN (rotW ⟨1, [2], [0, 1]⟩ nM.s) nM = 0 from by rfl] at h
  exact h
theorem n6 (u v : Value) (w : World) (hu : Ara w u nV) (hv : Ara w v nM) : Calls Try.prog 30 #[u, v] w (GaveAE w noA 4) := by
  have h := trot_any u v nV nM w hu hv (by decide) (by decide) (by decide) (by decide)
  rw [show tgA (rotW nV nM.s) nM = noA from by rfl, show tgN (rotW nV nM.s) nM = 4 from by rfl] at h
  exact h
theorem n7 (u v : Value) (w : World) (hu : Ara w u nM) (hv : Ara w v nM) : Calls Try.prog 30 #[u, v] w (GaveAE w noA 3) := by
  have h := trot_any u v nM nM w hu hv (by decide) (by decide) (by decide) (by decide)
  rw [show tgA (rotW nM nM.s) nM = noA from by rfl, show tgN (rotW nM nM.s) nM = 3 from by rfl] at h
  exact h
theorem n8 (u v : Value) (w : World) (hu : Ara w u ⟨1, [1], [1]⟩) (hv : Ara w v nV) : Calls Try.prog 30 #[u, v] w (GaveAE w noA 3) := by
  have h := trot_any u v ⟨1, [1], [1]⟩ nV w hu hv (by decide) (by decide) (by decide) (by decide)
  rw [show tgA (rotW ⟨1, [1], [1]⟩ nV.s) nV = noA from by rfl, show tgN (rotW ⟨1, [1], [1]⟩ nV.s) nV = 3 from by rfl] at h
  exact h
theorem n9 (u v : Value) (w : World) (hu : Ara w u ⟨2, [], [97]⟩) (hv : Ara w v nV) : Calls Try.prog 30 #[u, v] w (GaveAE w noA 5) := by
  have h := trot_any u v ⟨2, [], [97]⟩ nV w hu hv (by decide) (by decide) (by decide) (by decide)
  rw [show tgA (rotW ⟨2, [], [97]⟩ nV.s) nV = noA from by rfl, show tgN (rotW ⟨2, [], [97]⟩ nV.s) nV = 5 from by rfl] at h
  exact h
theorem n11 (u v : Value) (w : World) (hu : Ara w u ⟨1, [2], [1, 1]⟩) (hv : Ara w v nM) : Calls Try.prog 37 #[u, v] w (GaveAE w noA 5) := by
  have h := tper_any u v ⟨1, [2], [1, 1]⟩ nM w hu hv (by decide) (by decide) (by decide) (by decide)
  rw [show tgA (perW ⟨1, [2], [1, 1]⟩ nM.s) nM = noA from by rfl, show tgN (perW ⟨1, [2], [1, 1]⟩ nM.s) nM = 5 from by rfl] at h
  exact h
theorem n12 (u v : Value) (w : World) (hu : Ara w u ⟨1, [2], [0, 1]⟩) (hv : Ara w v nM) : Calls Try.prog 37 #[u, v] w (GaveAE w noA 5) := by
  have h := tper_any u v ⟨1, [2], [0, 1]⟩ nM w hu hv (by decide) (by decide) (by decide) (by decide)
  rw [show tgA (perW ⟨1, [2], [0, 1]⟩ nM.s) nM = noA from by rfl, show tgN (perW ⟨1, [2], [0, 1]⟩ nM.s) nM = 5 from by rfl] at h
  exact h
theorem n13 (u v : Value) (w : World) (hu : Ara w u ⟨1, [], [1]⟩) (hv : Ara w v nM) : Calls Try.prog 37 #[u, v] w (GaveAE w noA 4) := by
  have h := tper_any u v ⟨1, [], [1]⟩ nM w hu hv (by decide) (by decide) (by decide) (by decide)
  rw [show tgA (perW ⟨1, [], [1]⟩ nM.s) nM = noA from by rfl, show tgN (perW ⟨1, [], [1]⟩ nM.s) nM = 4 from by rfl] at h
  exact h
theorem n14 (u v : Value) (w : World) (hu : Ara w u nM) (hv : Ara w v nM) : Calls Try.prog 37 #[u, v] w (GaveAE w noA 3) := by
  have h := tper_any u v nM nM w hu hv (by decide) (by decide) (by decide) (by decide)
  rw [show tgA (perW nM nM.s) nM = noA from by rfl, show tgN (perW nM nM.s) nM = 3 from by rfl] at h
  exact h
theorem n15 (u v : Value) (w : World) (hu : Ara w u ⟨1, [2], [2, 1]⟩) (hv : Ara w v nM) : Calls Try.prog 37 #[u, v] w (GaveAE w nD 0) := by
  have h := tper_any u v ⟨1, [2], [2, 1]⟩ nM w hu hv (by decide) (by decide) (by decide) (by decide)
  rw [show tgA (perW ⟨1, [2], [2, 1]⟩ nM.s) nM = nD from by rfl, show tgN (perW ⟨1, [2], [2, 1]⟩ nM.s) nM = 0 from by rfl] at h
  exact h
theorem n16 (u v : Value) (w : World) (hu : Ara w u nG) (hv : Ara w v nF) : Calls Try.prog 37 #[u, v] w (GaveAE w nF 0) := by
  have h := tper_any u v nG nF w hu hv (by decide) (by decide) (by decide) (by decide)
  rw [show tgA (perW nG nF.s) nF = nF from by rfl, show tgN (perW nG nF.s) nF = 0 from by rfl] at h
  exact h
theorem n18 (u v : Value) (w : World) (hu : Ara w u ⟨1, [], [5]⟩) (hv : Ara w v nG) : Calls Try.prog 30 #[u, v] w (GaveAE w nG 0) := by
  have h := trot_any u v ⟨1, [], [5]⟩ nG w hu hv (by decide) (by decide) (by decide) (by decide)
  rw [show tgA (rotW ⟨1, [], [5]⟩ nG.s) nG = nG from by rfl, show tgN (rotW ⟨1, [], [5]⟩ nG.s) nG = 0 from by rfl] at h
  exact h
theorem n19 (u v : Value) (w : World) (hu : Ara w u ⟨1, [], [5]⟩) (hv : Ara w v nH) : Calls Try.prog 30 #[u, v] w (GaveAE w nH 0) := by
  have h := trot_any u v ⟨1, [], [5]⟩ nH w hu hv (by decide) (by decide) (by decide) (by decide)
  rw [show tgA (rotW ⟨1, [], [5]⟩ nH.s) nH = nH from by rfl, show tgN (rotW ⟨1, [], [5]⟩ nH.s) nH = 0 from by rfl] at h
  exact h
theorem n20 (v : Value) (w : World) (hv : Ara w v nAB) : Calls Try.prog 27 #[v] w (GaveAE w nK 0) := by
  have h := trev_any v nAB w hv (by decide) (by decide)
  rw [show tgA (revW nAB.s) nAB = nK from by rfl, show tgN (revW nAB.s) nAB = 0 from by rfl] at h
  exact h
theorem n21 (v : Value) (w : World) (hv : Ara w v nO) : Calls Try.prog 28 #[v] w (GaveAE w noA 110) := by
  have h := ttra_any v nO w hv (by decide) (by decide)
  rw [show tgA (toldW nO.s (traW nO.s)) nO = noA from by rfl, show tgN (toldW nO.s (traW nO.s)) nO = 110 from by rfl] at h
  exact h
theorem n17 (u v : Value) (w : World) (hu : Ara w u nB) (hv : Ls w v [2, 3, 4]) : Calls Try.prog 17 #[u, v] w (fun e w' => ∃ a c gf lb, e = .returned (.tuple #[.agg #[.slice a 3 c, .func (.func gf) #[] lb], .int .i64 0]) ∧ Ls w' (.slice a 3 c) [4, 2, 3] ∧ Chg (fun _ => False) w w') := by
  refine (perway_any u v nB [2, 3, 4] w hu hv (by decide) (by decide)).mono ?_
  rintro e w' ⟨v', D, rfl, hW, _, hC⟩
  have hs : (perW nB [2, 3, 4]).s = [4, 2, 3] := by rfl
  have hn : (perW nB [2, 3, 4]).n = 0 := by rfl
  obtain ⟨_, vs, gf, lb, rfl, hls, _⟩ := hW.resolve_right (fun h => h.1 hn)
  rw [hs] at hls
  rw [hn]
  obtain ⟨a, c, rfl, _⟩ := hls.form
  exact ⟨a, c, gf, lb, rfl, hls, hC⟩
theorem n22 (v : Value) (w : World) (hv : Ls w v [-1]) : Calls Try.prog 14 #[v] w (fun e w' => e = .returned (.tuple #[.agg #[.slice none 0 0, .nilFunc], .int .i64 110]) ∧ Chg (fun _ => False) w w') := by
  refine (revway_any v [-1] w hv (by decide)).mono ?_
  rintro e w' ⟨v', D, rfl, hW, _, hC⟩
  have hn : (revW [-1]).n = 110 := by rfl
  obtain ⟨_, _, _, rfl⟩ := hW.resolve_left (fun h => by rw [hn] at h; exact absurd h.1 (by decide))
  rw [hn]
  exact ⟨rfl, hC⟩
theorem ch_ab (w : World) : Calls Try.prog 42 #[.string ⟨#[97, 98]⟩] w (GaveA w nAB) := chars_any ⟨#[97, 98]⟩ w (by decide) (fun j h => by
  have h2 : j < 2 := h
  rcases (show j = 0 ∨ j = 1 by omega) with rfl | rfl
  · show (97 : UInt8).toNat < 128
    decide
  · show (98 : UInt8).toNat < 128
    decide)
theorem litD (W : World) (t : TypeId) (xs : List Int) (n : Nat) (hn : xs.length = n) (cs : Array Value) (hc : cs = (xs.map I).toArray) (hm : xs.length ≤ 1000000) : Ls ((W.alloc (.cells cs t)).drew) (.slice (some ⟨W.heap.size, 0, none⟩) n n) xs := (lit_ls W t xs n hn cs hc hm).fr ((Chg.refl _ _).drew)
theorem ch_ba (w : World) : Calls Try.prog 42 #[.string ⟨#[98, 97]⟩] w (GaveA w nK) := chars_any ⟨#[98, 97]⟩ w (by decide) (fun j h => by
  have h2 : j < 2 := h
  rcases (show j = 0 ∨ j = 1 by omega) with rfl | rfl
  · show (98 : UInt8).toNat < 128
    decide
  · show (97 : UInt8).toNat < 128
    decide)
set_option maxRecDepth 100000 in
set_option maxHeartbeats 8000000 in
theorem turnNames_walk (W : World) : Calls Try.prog 9 #[] W (True_ W) := by
  have HC := Lib.hid (Chg.refl (fun _ => False) W)
  have HB : Hid (AllB W []) := Lib.hid (fun p hp => by cases hp)
  have hCl := (Chg.refl (fun _ => False) W).alloc (.cells #[.int .i64 1, .int .i64 2, .int .i64 3] 2)
  have h1 : Calls Try.prog 39 #[.slice (some ⟨W.heap.size, 0, none⟩) 3 3] (W.alloc (.cells #[.int .i64 1, .int .i64 2, .int .i64 3] 2)) (GaveA (W.alloc (.cells #[.int .i64 1, .int .i64 2, .int .i64 3] 2)) nV) := vec_lit W [1, 2, 3] 3 rfl #[.int .i64 1, .int .i64 2, .int .i64 3] rfl (by decide)
  go_enter Try.func9, Try.ntmps9
  go_wp2_with fail
  refine h1.mono ?_
  clear h1
  rintro e9 u1 ⟨v9, rfl, ho9, hC9⟩
  obtain ⟨a9, c9, b9, d9, rfl, _, _⟩ := ara_new ho9
  have hC8 := (hCl.tr hC9).alloc (.cells #[.int .i64 nV.k, .slice a9 nV.s.length c9, .slice b9 nV.e.length d9] 25)
  replace HB := Lib.hid ((HB.out.fr hC8).cons (BoxA.new (A := nV) 25 ho9.ara))
  replace HC := Lib.hid (HC.out.tr hC8)
  obtain ⟨x1, hx⟩ : ∃ x, u1.heap.size = x := ⟨_, rfl⟩
  rw [hx] at HB
  clear hC8 hC9 ho9
  clear hCl
  have hlm := lit_ls (u1.alloc (.cells #[.int .i64 nV.k, .slice a9 nV.s.length c9, .slice b9 nV.e.length d9] 25)) 2 [1, 2, 3, 4] 4 rfl #[.int .i64 1, .int .i64 2, .int .i64 3, .int .i64 4] rfl (by simp)
  rw [World.size_alloc, hx] at hlm
  have h1 := matrix_any _ 2 [1, 2, 3, 4] _ (by decide) hlm (by decide)
  rw [show matA 2 [1, 2, 3, 4] = nM from by rfl] at h1
  have hCl := (Chg.refl (fun _ => False) (u1.alloc (.cells #[.int .i64 nV.k, .slice a9 nV.s.length c9, .slice b9 nV.e.length d9] 25))).alloc (.cells #[.int .i64 1, .int .i64 2, .int .i64 3, .int .i64 4] 2)
  go_wp2_with fail
  clear hx
  refine h1.mono ?_
  clear h1 hlm
  rintro e9 u9 ⟨v9, rfl, ho9, hC9⟩
  obtain ⟨vs9, ve9, rfl, hs9, he9⟩ := id ho9
  obtain ⟨a9, c9, rfl, _⟩ := hs9.form
  obtain ⟨b9, d9, rfl, _⟩ := he9.form
  clear hs9 he9
  have hC8 := (hCl.tr hC9).alloc (.cells #[.int .i64 nM.k, .slice a9 nM.s.length c9, .slice b9 nM.e.length d9] 25)
  replace HB := Lib.hid ((HB.out.fr hC8).cons (BoxA.new (A := nM) 25 ho9))
  replace HC := Lib.hid (HC.out.tr hC8)
  obtain ⟨x2, hx⟩ : ∃ x, u9.heap.size = x := ⟨_, rfl⟩
  rw [hx] at HB
  clear hC8 hC9 ho9 hCl
  go_upto_region 3 with (fail)
  clear hx
  generalize u9.alloc (.cells #[.int .i64 nM.k, .slice a9 nM.s.length c9, .slice b9 nM.e.length d9] 25) = z2 at *
  have hbx : BoxA z2 x1 nV := HB.out (x1, nV) (by simp)
  go_cut [3, 4] (fun s4 s5 wx => ∃ x, s4 = .pointer (some ⟨x, 0, none⟩) ∧ s5 = .int .i64 0 ∧ BoxA wx x nA ∧ Chg (fun _ => False) z2 wx)
  case first =>
    as_aux_lemma =>
      refine one_con_region (p := 1) (s1 := 48) (s2 := 49) (s3 := 50) (s4 := 47) (s5 := 51) (s6 := 52) (d := 3) (e := 4) (x := x1) (A1 := ⟨1, [], [-1]⟩) (A := nV) (R := nA) (n := 0) (by kernel_rfl) (fun _ _ => rfl) (by decide) ?_ rfl hbx rfl ?_ (fun u v w' a b => n3 u v w' a b) (by simp [Region.binds]) (by simp) ?_
      · refine ⟨?_, ?_, ?_, ?_, ?_, ?_, ?_, ?_⟩ <;> exact of_decide_eq_true rfl
      · intro a w K Q h
        go_simp
        refine (ascalar_any (-1) w).mono ?_
        rintro e w' ⟨v', rfl, ho, hC⟩
        exact h _ _ ho.ara hC
      · intro w' xd v1 vx v3 k1 k2
        simp only [Act.put, List.setIfInBounds_toArray, List.set_cons_zero, List.set_cons_succ]
        go_wp2_with fail
        go_meet
        exact ⟨_, rfl, rfl, k1, k2⟩
  case rest =>
    as_aux_lemma =>
      obtain ⟨x3, rfl, rfl, hbn, hCc⟩ := hcut
      replace HB := Lib.hid ((HB.out.fr hCc).cons hbn)
      replace HC := Lib.hid (HC.out.tr hCc)
      clear hCc hbn hbx
      generalize wc = z3 at *
      go_upto_region 4 with (fail)
      have hbx : BoxA z3 x1 nV := HB.out (x1, nV) (by simp)
      go_cut [5, 6] (fun s4 s5 wx => ∃ x, s4 = .pointer (some ⟨x, 0, none⟩) ∧ s5 = .int .i64 0 ∧ BoxA wx x nB ∧ Chg (fun _ => False) z3 wx)
      case first =>
        as_aux_lemma =>
          refine one_con_region (p := 1) (s1 := 54) (s2 := 55) (s3 := 56) (s4 := 53) (s5 := 57) (s6 := 58) (d := 5) (e := 6) (x := x1) (A1 := ⟨1, [], [-9223372036854775808]⟩) (A := nV) (R := nB) (n := 0) (by kernel_rfl) (fun _ _ => rfl) (by decide) ?_ rfl hbx rfl ?_ (fun u v w' a b => n4 u v w' a b) (by simp [Region.binds]) (by simp) ?_
          · refine ⟨?_, ?_, ?_, ?_, ?_, ?_, ?_, ?_⟩ <;> exact of_decide_eq_true rfl
          · intro a w K Q h
            go_simp
            refine (ascalar_any (-9223372036854775808) w).mono ?_
            rintro e w' ⟨v', rfl, ho, hC⟩
            exact h _ _ ho.ara hC
          · intro w' xd v1 vx v3 k1 k2
            simp only [Act.put, List.setIfInBounds_toArray, List.set_cons_zero, List.set_cons_succ]
            go_wp2_with fail
            go_meet
            exact ⟨_, rfl, rfl, k1, k2⟩
      case rest =>
        as_aux_lemma =>
          obtain ⟨x5, rfl, rfl, hbn, hCc⟩ := hcut
          replace HB := Lib.hid ((HB.out.fr hCc).cons hbn)
          replace HC := Lib.hid (HC.out.tr hCc)
          clear hCc hbn hbx
          generalize wc = z4 at *
          go_upto_region 5 with (fail)
          have hbx : BoxA z4 x2 nM := HB.out (x2, nM) (by simp)
          go_cut [7, 8] (fun s4 s5 wx => ∃ x, s4 = .pointer (some ⟨x, 0, none⟩) ∧ s5 = .int .i64 0 ∧ BoxA wx x nC ∧ Chg (fun _ => False) z4 wx)
          case first =>
            as_aux_lemma =>
              refine one_lit_region (p := 2) (s0 := 60) (s1 := 61) (s2 := 62) (s3 := 63) (s4 := 59) (s5 := 64) (s6 := 65) (d := 7) (e := 8) (x := x2) (A1 := ⟨1, [2], [0, 1]⟩) (A := nM) (R := nC) (n := 0) (xs := [0, 1]) (by kernel_rfl) (fun _ _ => rfl) (by decide) ?_ rfl hbx ⟨rfl, rfl⟩ ?_ ?_ (fun u v w' a b => n5 u v w' a b) (by simp [Region.binds]) (by simp) ?_
              · refine ⟨?_, ?_, ?_, ?_, ?_, ?_, ?_, ?_, ?_⟩ <;> exact of_decide_eq_true rfl
              · intro a w K Q h
                go_simp
                exact h _ _ (lit_ls w 2 [0, 1] 2 rfl #[.int .i64 0, .int .i64 1] rfl (by simp)) ((Chg.refl _ _).alloc _)
              · rintro a w K Q ⟨u, hu, hl⟩ h
                go_simp
                refine (avector_any u [0, 1] w hl (by simp)).mono ?_
                rintro e w' ⟨v', rfl, ho, hC⟩
                exact h _ _ ho.ara hC
              · intro w' xd v0 v1 vx v3 k1 k2
                simp only [Act.put, List.setIfInBounds_toArray, List.set_cons_zero, List.set_cons_succ]
                go_wp2_with fail
                go_meet
                exact ⟨_, rfl, rfl, k1, k2⟩
          case rest =>
            as_aux_lemma =>
              obtain ⟨x7, rfl, rfl, hbn, hCc⟩ := hcut
              replace HB := Lib.hid ((HB.out.fr hCc).cons hbn)
              replace HC := Lib.hid (HC.out.tr hCc)
              clear hCc hbn hbx
              generalize wc = z5 at *
              obtain ⟨sa, cs, sb, cb, ⟨y0, y1, y2⟩, hb⟩ := HB.out (x1, nV) (by simp)
              obtain ⟨saq, csq, sbq, cbq, ⟨y0q, y1q, y2q⟩, hbq⟩ := HB.out (x2, nM) (by simp)
              have h1 := n6 _ _ _ hb hbq
              go_wp2_with fail
              refine h1.mono ?_
              clear h1
              clear y0 y1 y2 hb y0q y1q y2q hbq
              rintro e9 u2 ⟨v9, rfl, ho9, hC9⟩
              obtain ⟨a9, c9, b9, d9, rfl, _, _⟩ := ara_new ho9
              have hC8 := (hC9).alloc (.cells #[.int .i64 noA.k, .slice a9 noA.s.length c9, .slice b9 noA.e.length d9] 25)
              replace HB := Lib.hid ((HB.out.fr hC8).cons (BoxA.new (A := noA) 25 ho9.ara))
              replace HC := Lib.hid (HC.out.tr hC8)
              obtain ⟨x9, hx⟩ : ∃ x, u2.heap.size = x := ⟨_, rfl⟩
              rw [hx] at HB
              clear hC8 hC9 ho9
              obtain ⟨sa, cs, sb, cb, ⟨y0, y1, y2⟩, hb⟩ := HB.out (x2, nM) (by simp)
              have h1 := n7 _ _ _ hb hb
              go_wp2_with fail
              clear hx
              refine h1.mono ?_
              clear h1
              clear y0 y1 y2 hb
              rintro e9 u3 ⟨v9, rfl, ho9, hC9⟩
              obtain ⟨a9, c9, b9, d9, rfl, _, _⟩ := ara_new ho9
              have hC8 := (hC9).alloc (.cells #[.int .i64 noA.k, .slice a9 noA.s.length c9, .slice b9 noA.e.length d9] 25)
              replace HB := Lib.hid ((HB.out.fr hC8).cons (BoxA.new (A := noA) 25 ho9.ara))
              replace HC := Lib.hid (HC.out.tr hC8)
              obtain ⟨x11, hx⟩ : ∃ x, u3.heap.size = x := ⟨_, rfl⟩
              rw [hx] at HB
              clear hC8 hC9 ho9
              go_upto_region 8 with (fail)
              clear hx
              generalize u3.alloc (.cells #[.int .i64 noA.k, .slice a9 noA.s.length c9, .slice b9 noA.e.length d9] 25) = z7 at *
              have hbx : BoxA z7 x1 nV := HB.out (x1, nV) (by simp)
              go_cut [13, 14] (fun s4 s5 wx => ∃ x, s4 = .pointer (some ⟨x, 0, none⟩) ∧ s5 = .int .i64 3 ∧ BoxA wx x noA ∧ Chg (fun _ => False) z7 wx)
              case first =>
                as_aux_lemma =>
                  refine one_lit_region (p := 1) (s0 := 79) (s1 := 80) (s2 := 81) (s3 := 82) (s4 := 78) (s5 := 83) (s6 := 84) (d := 13) (e := 14) (x := x1) (A1 := ⟨1, [1], [1]⟩) (A := nV) (R := noA) (n := 3) (xs := [1]) (by kernel_rfl) (fun _ _ => rfl) (by decide) ?_ rfl hbx ⟨rfl, rfl⟩ ?_ ?_ (fun u v w' a b => n8 u v w' a b) (by simp [Region.binds]) (by simp) ?_
                  · refine ⟨?_, ?_, ?_, ?_, ?_, ?_, ?_, ?_, ?_⟩ <;> exact of_decide_eq_true rfl
                  · intro a w K Q h
                    go_simp
                    exact h _ _ (lit_ls w 2 [1] 1 rfl #[.int .i64 1] rfl (by simp)) ((Chg.refl _ _).alloc _)
                  · rintro a w K Q ⟨u, hu, hl⟩ h
                    go_simp
                    refine (avector_any u [1] w hl (by simp)).mono ?_
                    rintro e w' ⟨v', rfl, ho, hC⟩
                    exact h _ _ ho.ara hC
                  · intro w' xd v0 v1 vx v3 k1 k2
                    simp only [Act.put, List.setIfInBounds_toArray, List.set_cons_zero, List.set_cons_succ]
                    go_wp2_with fail
                    go_meet
                    exact ⟨_, rfl, rfl, k1, k2⟩
              case rest =>
                as_aux_lemma =>
                  obtain ⟨x13, rfl, rfl, hbn, hCc⟩ := hcut
                  replace HB := Lib.hid ((HB.out.fr hCc).cons hbn)
                  replace HC := Lib.hid (HC.out.tr hCc)
                  clear hCc hbn hbx
                  generalize wc = z8 at *
                  have hCl := (Chg.refl (fun _ => False) z8).alloc (.cells #[.int .i64 97] 2)
                  have hl9 := lit_ls z8 2 [97] 1 rfl #[.int .i64 97] rfl (by simp)
                  obtain ⟨sa, cs, sb, cb, ⟨y0, y1, y2⟩, hb⟩ := HB.out.fr hCl (x1, nV) (by simp)
                  have h1 := n9 (.agg #[.int .i64 2, .slice none 0 0, .slice (some ⟨z8.heap.size, 0, none⟩) 1 1]) _ _ (Ara.mk (k := 2) (Ls.nil _) hl9) hb
                  go_wp2_with fail
                  refine h1.mono ?_
                  clear h1 y0 y1 y2 hb hl9
                  rintro e9 u4 ⟨v9, rfl, ho9, hC9⟩
                  obtain ⟨a9, c9, b9, d9, rfl, _, _⟩ := ara_new ho9
                  have hC8 := (hCl.tr hC9).alloc (.cells #[.int .i64 noA.k, .slice a9 noA.s.length c9, .slice b9 noA.e.length d9] 25)
                  replace HB := Lib.hid ((HB.out.fr hC8).cons (BoxA.new (A := noA) 25 ho9.ara))
                  replace HC := Lib.hid (HC.out.tr hC8)
                  obtain ⟨x15, hx⟩ : ∃ x, u4.heap.size = x := ⟨_, rfl⟩
                  rw [hx] at HB
                  clear hC8 hC9 ho9
                  clear hCl
                  go_upto_region 10 with (fail)
                  clear hx
                  generalize u4.alloc (.cells #[.int .i64 noA.k, .slice a9 noA.s.length c9, .slice b9 noA.e.length d9] 25) = z10 at *
                  go_cut [17] (fun s wx => s = .bool true ∧ Chg (fun _ => False) z10 wx)
                  case first =>
                    as_aux_lemma =>
                      obtain ⟨sa_0, cs_0, sb_0, cb_0, ⟨y0_0, y1_0, y2_0⟩, hb_0⟩ := HB.out (x3, nA) (by simp)
                      obtain ⟨sa_1, cs_1, sb_1, cb_1, ⟨y0_1, y1_1, y2_1⟩, hb_1⟩ := HB.out (x5, nB) (by simp)
                      obtain ⟨sa_2, cs_2, sb_2, cb_2, ⟨y0_2, y1_2, y2_2⟩, hb_2⟩ := HB.out (x7, nC) (by simp)
                      have KP := Lib.hid (show ∀ w', Chg (fun _ => False) z10 w' → (Chg (fun _ => False) z10 w' ∧ w'.cell? ⟨x3, 0, none⟩ = some (.int .i64 nA.k) ∧ w'.cell? ⟨x3, 1, none⟩ = some (.slice sa_0 nA.s.length cs_0) ∧ w'.cell? ⟨x3, 2, none⟩ = some (.slice sb_0 nA.e.length cb_0) ∧ w'.cell? ⟨x5, 0, none⟩ = some (.int .i64 nB.k) ∧ w'.cell? ⟨x5, 1, none⟩ = some (.slice sa_1 nB.s.length cs_1) ∧ w'.cell? ⟨x5, 2, none⟩ = some (.slice sb_1 nB.e.length cb_1) ∧ w'.cell? ⟨x7, 0, none⟩ = some (.int .i64 nC.k) ∧ w'.cell? ⟨x7, 1, none⟩ = some (.slice sa_2 nC.s.length cs_2) ∧ w'.cell? ⟨x7, 2, none⟩ = some (.slice sb_2 nC.e.length cb_2)) from fun w' h => ⟨h, h.cell y0_0 id, h.cell y1_0 id, h.cell y2_0 id, h.cell y0_1 id, h.cell y1_1 id, h.cell y2_1 id, h.cell y0_2 id, h.cell y1_2 id, h.cell y2_2 id⟩)
                      have H_0 := Lib.hid (show ∀ w' v, Chg (fun _ => False) z10 w' → Ara w' v nA → Calls Try.prog 29 #[.agg #[.int .i64 nA.k, .slice sa_0 nA.s.length cs_0, .slice sb_0 nA.e.length cb_0], .int .i64 0, v] w' (GaveBo w' true) from fun w' v h hv => by have h2 := is_any _ _ nA nA 0 w' (hb_0.fr h) hv (by decide) (by decide); rw [isB_iff.2 ⟨rfl, rfl⟩] at h2; exact h2)
                      have H_1 := Lib.hid (show ∀ w' v, Chg (fun _ => False) z10 w' → Ara w' v nB → Calls Try.prog 29 #[.agg #[.int .i64 nB.k, .slice sa_1 nB.s.length cs_1, .slice sb_1 nB.e.length cb_1], .int .i64 0, v] w' (GaveBo w' true) from fun w' v h hv => by have h2 := is_any _ _ nB nB 0 w' (hb_1.fr h) hv (by decide) (by decide); rw [isB_iff.2 ⟨rfl, rfl⟩] at h2; exact h2)
                      have H_2 := Lib.hid (show ∀ w' v, Chg (fun _ => False) z10 w' → Ara w' v nC → Calls Try.prog 29 #[.agg #[.int .i64 nC.k, .slice sa_2 nC.s.length cs_2, .slice sb_2 nC.e.length cb_2], .int .i64 0, v] w' (GaveBo w' true) from fun w' v h hv => by have h2 := is_any _ _ nC nC 0 w' (hb_2.fr h) hv (by decide) (by decide); rw [isB_iff.2 ⟨rfl, rfl⟩] at h2; exact h2)
                      go_region_held3 (fun w' => (Chg (fun _ => False) z10 w' ∧ w'.cell? ⟨x3, 0, none⟩ = some (.int .i64 nA.k) ∧ w'.cell? ⟨x3, 1, none⟩ = some (.slice sa_0 nA.s.length cs_0) ∧ w'.cell? ⟨x3, 2, none⟩ = some (.slice sb_0 nA.e.length cb_0) ∧ w'.cell? ⟨x5, 0, none⟩ = some (.int .i64 nB.k) ∧ w'.cell? ⟨x5, 1, none⟩ = some (.slice sa_1 nB.s.length cs_1) ∧ w'.cell? ⟨x5, 2, none⟩ = some (.slice sb_1 nB.e.length cb_1) ∧ w'.cell? ⟨x7, 0, none⟩ = some (.int .i64 nC.k) ∧ w'.cell? ⟨x7, 1, none⟩ = some (.slice sa_2 nC.s.length cs_2) ∧ w'.cell? ⟨x7, 2, none⟩ = some (.slice sb_2 nC.e.length cb_2))) ((refine KP.out _ ?_; repeat (first | (with_reducible exact Chg.refl _ _) | (with_reducible assumption) | (with_reducible refine mchg_drew ?_) | (with_reducible refine mchg_alloc ?_) | (with_reducible refine Chg.tr ?_ hq6) | (with_reducible refine Chg.tr ?_ hq5) | (with_reducible refine Chg.tr ?_ hq4) | (with_reducible refine Chg.tr ?_ hq3) | (with_reducible refine Chg.tr ?_ hq2) | (with_reducible refine Chg.tr ?_ hq1)))) (first
                        | (go_at_call 39
                           refine (avector_any _ [3, 1, 2] _ ?_ (by decide)).mono ?_
                           · first | exact lit_ls _ _ [3, 1, 2] 3 rfl _ rfl (by decide) | exact litD _ _ [3, 1, 2] 3 rfl _ rfl (by decide)
                           rintro e9 q1 ⟨u1, rfl, hu1, hq1⟩
                           have hv1 := Lib.hid (show Ara q1 u1 nA from hu1.ara))
                        | (go_at_call 29
                           with_reducible refine (H_0.out _ _ ?_ ?_).mono ?_
                           · repeat (first | (with_reducible exact Chg.refl _ _) | (with_reducible assumption) | (with_reducible refine mchg_drew ?_) | (with_reducible refine mchg_alloc ?_) | (with_reducible refine Chg.tr ?_ hq1))
                           · first | exact hv1.out | exact hv1.out.fr ((Chg.refl _ _).drew)
                           rintro e9 q2 ⟨rfl, hq2⟩)
                        | (go_at_call 39
                           refine (avector_any _ [2, 3, 1] _ ?_ (by decide)).mono ?_
                           · first | exact lit_ls _ _ [2, 3, 1] 3 rfl _ rfl (by decide) | exact litD _ _ [2, 3, 1] 3 rfl _ rfl (by decide)
                           rintro e9 q3 ⟨u3, rfl, hu3, hq3⟩
                           have hv3 := Lib.hid (show Ara q3 u3 nB from hu3.ara))
                        | (go_at_call 29
                           with_reducible refine (H_1.out _ _ ?_ ?_).mono ?_
                           · repeat (first | (with_reducible exact Chg.refl _ _) | (with_reducible assumption) | (with_reducible refine mchg_drew ?_) | (with_reducible refine mchg_alloc ?_) | (with_reducible refine Chg.tr ?_ hq3) | (with_reducible refine Chg.tr ?_ hq2) | (with_reducible refine Chg.tr ?_ hq1))
                           · first | exact hv3.out | exact hv3.out.fr ((Chg.refl _ _).drew)
                           rintro e9 q4 ⟨rfl, hq4⟩)
                        | (go_at_call 41
                           refine (matrix_any _ 2 [1, 2, 4, 3] _ (by decide) ?_ (by decide)).mono ?_
                           · first | exact lit_ls _ _ [1, 2, 4, 3] 4 rfl _ rfl (by decide) | exact litD _ _ [1, 2, 4, 3] 4 rfl _ rfl (by decide)
                           rintro e9 q5 ⟨u5, rfl, hu5, hq5⟩
                           have hv5 := Lib.hid (show Ara q5 u5 nC from hu5))
                        | (go_at_call 29
                           with_reducible refine (H_2.out _ _ ?_ ?_).mono ?_
                           · repeat (first | (with_reducible exact Chg.refl _ _) | (with_reducible assumption) | (with_reducible refine mchg_drew ?_) | (with_reducible refine mchg_alloc ?_) | (with_reducible refine Chg.tr ?_ hq5) | (with_reducible refine Chg.tr ?_ hq4) | (with_reducible refine Chg.tr ?_ hq3) | (with_reducible refine Chg.tr ?_ hq2) | (with_reducible refine Chg.tr ?_ hq1))
                           · first | exact hv5.out | exact hv5.out.fr ((Chg.refl _ _).drew)
                           rintro e9 q6 ⟨rfl, hq6⟩)
                        | fail)
                      all_goals
                        rename_i hHd
                        go_wp2_with fail
                        go_meet
                        exact ⟨rfl, hHd.1⟩
                  case rest =>
                    as_aux_lemma =>
                      obtain ⟨rfl, hCc⟩ := hcut
                      replace HB := Lib.hid (HB.out.fr hCc)
                      replace HC := Lib.hid (HC.out.tr hCc)
                      clear hCc
                      generalize wc = y10 at *
                      go_upto_region 11 with (fail)
                      have hbx : BoxA y10 x2 nM := HB.out (x2, nM) (by simp)
                      go_cut [18, 19] (fun s4 s5 wx => ∃ x, s4 = .pointer (some ⟨x, 0, none⟩) ∧ s5 = .int .i64 5 ∧ BoxA wx x noA ∧ Chg (fun _ => False) y10 wx)
                      case first =>
                        as_aux_lemma =>
                          refine one_lit_region (p := 2) (s0 := 128) (s1 := 129) (s2 := 130) (s3 := 131) (s4 := 127) (s5 := 132) (s6 := 133) (d := 18) (e := 19) (x := x2) (A1 := ⟨1, [2], [1, 1]⟩) (A := nM) (R := noA) (n := 5) (xs := [1, 1]) (by kernel_rfl) (fun _ _ => rfl) (by decide) ?_ rfl hbx ⟨rfl, rfl⟩ ?_ ?_ (fun u v w' a b => n11 u v w' a b) (by simp [Region.binds]) (by simp) ?_
                          · refine ⟨?_, ?_, ?_, ?_, ?_, ?_, ?_, ?_, ?_⟩ <;> exact of_decide_eq_true rfl
                          · intro a w K Q h
                            go_simp
                            exact h _ _ (lit_ls w 2 [1, 1] 2 rfl #[.int .i64 1, .int .i64 1] rfl (by simp)) ((Chg.refl _ _).alloc _)
                          · rintro a w K Q ⟨u, hu, hl⟩ h
                            go_simp
                            refine (avector_any u [1, 1] w hl (by simp)).mono ?_
                            rintro e w' ⟨v', rfl, ho, hC⟩
                            exact h _ _ ho.ara hC
                          · intro w' xd v0 v1 vx v3 k1 k2
                            simp only [Act.put, List.setIfInBounds_toArray, List.set_cons_zero, List.set_cons_succ]
                            go_wp2_with fail
                            go_meet
                            exact ⟨_, rfl, rfl, k1, k2⟩
                      case rest =>
                        as_aux_lemma =>
                          obtain ⟨x18, rfl, rfl, hbn, hCc⟩ := hcut
                          replace HB := Lib.hid ((HB.out.fr hCc).cons hbn)
                          replace HC := Lib.hid (HC.out.tr hCc)
                          clear hCc hbn hbx
                          generalize wc = z11 at *
                          go_upto_region 12 with (fail)
                          have hbx : BoxA z11 x2 nM := HB.out (x2, nM) (by simp)
                          go_cut [20, 21] (fun s4 s5 wx => ∃ x, s4 = .pointer (some ⟨x, 0, none⟩) ∧ s5 = .int .i64 5 ∧ BoxA wx x noA ∧ Chg (fun _ => False) z11 wx)
                          case first =>
                            as_aux_lemma =>
                              refine one_lit_region (p := 2) (s0 := 135) (s1 := 136) (s2 := 137) (s3 := 138) (s4 := 134) (s5 := 139) (s6 := 140) (d := 20) (e := 21) (x := x2) (A1 := ⟨1, [2], [0, 1]⟩) (A := nM) (R := noA) (n := 5) (xs := [0, 1]) (by kernel_rfl) (fun _ _ => rfl) (by decide) ?_ rfl hbx ⟨rfl, rfl⟩ ?_ ?_ (fun u v w' a b => n12 u v w' a b) (by simp [Region.binds]) (by simp) ?_
                              · refine ⟨?_, ?_, ?_, ?_, ?_, ?_, ?_, ?_, ?_⟩ <;> exact of_decide_eq_true rfl
                              · intro a w K Q h
                                go_simp
                                exact h _ _ (lit_ls w 2 [0, 1] 2 rfl #[.int .i64 0, .int .i64 1] rfl (by simp)) ((Chg.refl _ _).alloc _)
                              · rintro a w K Q ⟨u, hu, hl⟩ h
                                go_simp
                                refine (avector_any u [0, 1] w hl (by simp)).mono ?_
                                rintro e w' ⟨v', rfl, ho, hC⟩
                                exact h _ _ ho.ara hC
                              · intro w' xd v0 v1 vx v3 k1 k2
                                simp only [Act.put, List.setIfInBounds_toArray, List.set_cons_zero, List.set_cons_succ]
                                go_wp2_with fail
                                go_meet
                                exact ⟨_, rfl, rfl, k1, k2⟩
                          case rest =>
                            as_aux_lemma =>
                              obtain ⟨x20, rfl, rfl, hbn, hCc⟩ := hcut
                              replace HB := Lib.hid ((HB.out.fr hCc).cons hbn)
                              replace HC := Lib.hid (HC.out.tr hCc)
                              clear hCc hbn hbx
                              generalize wc = z12 at *
                              go_upto_region 13 with (fail)
                              have hbx : BoxA z12 x2 nM := HB.out (x2, nM) (by simp)
                              go_cut [22, 23] (fun s4 s5 wx => ∃ x, s4 = .pointer (some ⟨x, 0, none⟩) ∧ s5 = .int .i64 4 ∧ BoxA wx x noA ∧ Chg (fun _ => False) z12 wx)
                              case first =>
                                as_aux_lemma =>
                                  refine one_con_region (p := 2) (s1 := 142) (s2 := 143) (s3 := 144) (s4 := 141) (s5 := 145) (s6 := 146) (d := 22) (e := 23) (x := x2) (A1 := ⟨1, [], [1]⟩) (A := nM) (R := noA) (n := 4) (by kernel_rfl) (fun _ _ => rfl) (by decide) ?_ rfl hbx rfl ?_ (fun u v w' a b => n13 u v w' a b) (by simp [Region.binds]) (by simp) ?_
                                  · refine ⟨?_, ?_, ?_, ?_, ?_, ?_, ?_, ?_⟩ <;> exact of_decide_eq_true rfl
                                  · intro a w K Q h
                                    go_simp
                                    refine (ascalar_any (1) w).mono ?_
                                    rintro e w' ⟨v', rfl, ho, hC⟩
                                    exact h _ _ ho.ara hC
                                  · intro w' xd v1 vx v3 k1 k2
                                    simp only [Act.put, List.setIfInBounds_toArray, List.set_cons_zero, List.set_cons_succ]
                                    go_wp2_with fail
                                    go_meet
                                    exact ⟨_, rfl, rfl, k1, k2⟩
                              case rest =>
                                as_aux_lemma =>
                                  obtain ⟨x22, rfl, rfl, hbn, hCc⟩ := hcut
                                  replace HB := Lib.hid ((HB.out.fr hCc).cons hbn)
                                  replace HC := Lib.hid (HC.out.tr hCc)
                                  clear hCc hbn hbx
                                  generalize wc = z13 at *
                                  obtain ⟨sa, cs, sb, cb, ⟨y0, y1, y2⟩, hb⟩ := HB.out (x2, nM) (by simp)
                                  have h1 := n14 _ _ _ hb hb
                                  go_wp2_with fail
                                  refine h1.mono ?_
                                  clear h1
                                  clear y0 y1 y2 hb
                                  rintro e9 u5 ⟨v9, rfl, ho9, hC9⟩
                                  obtain ⟨a9, c9, b9, d9, rfl, _, _⟩ := ara_new ho9
                                  have hC8 := (hC9).alloc (.cells #[.int .i64 noA.k, .slice a9 noA.s.length c9, .slice b9 noA.e.length d9] 25)
                                  replace HB := Lib.hid ((HB.out.fr hC8).cons (BoxA.new (A := noA) 25 ho9.ara))
                                  replace HC := Lib.hid (HC.out.tr hC8)
                                  obtain ⟨x24, hx⟩ : ∃ x, u5.heap.size = x := ⟨_, rfl⟩
                                  rw [hx] at HB
                                  clear hC8 hC9 ho9
                                  go_upto_region 15 with (fail)
                                  clear hx
                                  generalize u5.alloc (.cells #[.int .i64 noA.k, .slice a9 noA.s.length c9, .slice b9 noA.e.length d9] 25) = z15 at *
                                  have hbx : BoxA z15 x2 nM := HB.out (x2, nM) (by simp)
                                  go_cut [26, 27] (fun s4 s5 wx => ∃ x, s4 = .pointer (some ⟨x, 0, none⟩) ∧ s5 = .int .i64 0 ∧ BoxA wx x nD ∧ Chg (fun _ => False) z15 wx)
                                  case first =>
                                    as_aux_lemma =>
                                      refine one_lit_region (p := 2) (s0 := 154) (s1 := 155) (s2 := 156) (s3 := 157) (s4 := 153) (s5 := 158) (s6 := 159) (d := 26) (e := 27) (x := x2) (A1 := ⟨1, [2], [2, 1]⟩) (A := nM) (R := nD) (n := 0) (xs := [2, 1]) (by kernel_rfl) (fun _ _ => rfl) (by decide) ?_ rfl hbx ⟨rfl, rfl⟩ ?_ ?_ (fun u v w' a b => n15 u v w' a b) (by simp [Region.binds]) (by simp) ?_
                                      · refine ⟨?_, ?_, ?_, ?_, ?_, ?_, ?_, ?_, ?_⟩ <;> exact of_decide_eq_true rfl
                                      · intro a w K Q h
                                        go_simp
                                        exact h _ _ (lit_ls w 2 [2, 1] 2 rfl #[.int .i64 2, .int .i64 1] rfl (by simp)) ((Chg.refl _ _).alloc _)
                                      · rintro a w K Q ⟨u, hu, hl⟩ h
                                        go_simp
                                        refine (avector_any u [2, 1] w hl (by simp)).mono ?_
                                        rintro e w' ⟨v', rfl, ho, hC⟩
                                        exact h _ _ ho.ara hC
                                      · intro w' xd v0 v1 vx v3 k1 k2
                                        simp only [Act.put, List.setIfInBounds_toArray, List.set_cons_zero, List.set_cons_succ]
                                        go_wp2_with fail
                                        go_meet
                                        exact ⟨_, rfl, rfl, k1, k2⟩
                                  case rest =>
                                    as_aux_lemma =>
                                      obtain ⟨x26, rfl, rfl, hbn, hCc⟩ := hcut
                                      replace HB := Lib.hid ((HB.out.fr hCc).cons hbn)
                                      replace HC := Lib.hid (HC.out.tr hCc)
                                      clear hCc hbn hbx
                                      generalize wc = z15 at *
                                      go_upto_region 16 with (fail)
                                      have h1 := (avector_any (.slice none 0 0) [] z15 (Ls.nil _) (by decide))
                                      go_wp2_with fail
                                      refine h1.mono ?_
                                      clear h1
                                      rintro e9 p1 ⟨v1, rfl, ho1, hq1⟩
                                      replace HB := Lib.hid (HB.out.fr (hq1))
                                      replace HC := Lib.hid (HC.out.tr (hq1))
                                      have h1 := (ascalar_any 9 p1)
                                      go_wp2_with fail
                                      refine h1.mono ?_
                                      clear h1
                                      rintro e9 p2 ⟨v2, rfl, ho2, hq2⟩
                                      replace HB := Lib.hid (HB.out.fr (hq2))
                                      replace HC := Lib.hid (HC.out.tr (hq2))
                                      have h1 := (n16 _ _ _ (show Ara p2 v1 nG from ho1.ara.fr hq2) (show Ara p2 v2 nF from ho2.ara))
                                      go_wp2_with fail
                                      refine h1.mono ?_
                                      clear h1
                                      rintro e9 u6 ⟨v9, rfl, ho9, hC9⟩
                                      obtain ⟨a9, c9, b9, d9, rfl, _, _⟩ := ara_new ho9
                                      have hC8 := (hC9).alloc (.cells #[.int .i64 nF.k, .slice a9 nF.s.length c9, .slice b9 nF.e.length d9] 25)
                                      replace HB := Lib.hid ((HB.out.fr hC8).cons (BoxA.new (A := nF) 25 ho9.ara))
                                      replace HC := Lib.hid (HC.out.tr hC8)
                                      obtain ⟨x28, hx⟩ : ∃ x, u6.heap.size = x := ⟨_, rfl⟩
                                      rw [hx] at HB
                                      clear hC8 hC9 ho9
                                      clear ho1 ho2 hq1 hq2
                                      go_upto_region 17 with (fail)
                                      clear hx
                                      generalize u6.alloc (.cells #[.int .i64 nF.k, .slice a9 nF.s.length c9, .slice b9 nF.e.length d9] 25) = z17 at *
                                      have hCl := (Chg.refl (fun _ => False) z17).alloc (.cells #[.int .i64 2, .int .i64 3, .int .i64 1] 2)
                                      have hl := lit_ls z17 2 [2, 3, 1] 3 rfl #[.int .i64 2, .int .i64 3, .int .i64 1] rfl (by simp)
                                      have h1 := (avector_any _ [2, 3, 1] _ hl (by decide))
                                      go_wp2_with fail
                                      refine h1.mono ?_
                                      clear h1
                                      rintro e9 p3 ⟨v3, rfl, ho3, hq3⟩
                                      replace HB := Lib.hid (HB.out.fr (hCl.tr hq3))
                                      replace HC := Lib.hid (HC.out.tr (hCl.tr hq3))
                                      clear hCl hl
                                      have hCl := (Chg.refl (fun _ => False) p3).alloc (.cells #[.int .i64 2, .int .i64 3, .int .i64 4] 3)
                                      have hl := lit_ls p3 3 [2, 3, 4] 3 rfl #[.int .i64 2, .int .i64 3, .int .i64 4] rfl (by simp)
                                      have h1 := n17 _ _ _ (show Ara (p3.alloc (.cells #[.int .i64 2, .int .i64 3, .int .i64 4] 3)) v3 nB from ho3.ara.fr hCl) hl
                                      go_wp2_with fail
                                      refine h1.mono ?_
                                      clear h1 hl ho3 hq3
                                      rintro e9 p4 ⟨awy, cwy, gfw, lbw, rfl, hlw, hq4⟩
                                      have hq5 := (hCl.tr hq4).alloc (.cells #[.slice awy 3 cwy, .func (.func gfw) #[] lbw] 31)
                                      have hwy0 := new_cell p4 #[.slice awy 3 cwy, .func (.func gfw) #[] lbw] 31 (i := 0) rfl
                                      replace HB := Lib.hid (HB.out.fr hq5)
                                      replace HC := Lib.hid (HC.out.tr hq5)
                                      have hwy := hlw.fr ((Chg.refl (fun _ => False) p4).alloc (.cells #[.slice awy 3 cwy, .func (.func gfw) #[] lbw] 31))
                                      obtain ⟨x30, hx⟩ : ∃ x, p4.heap.size = x := ⟨_, rfl⟩
                                      rw [hx] at hwy0
                                      clear hq4 hq5 hlw hCl
                                      go_upto_region 18 with (fail)
                                      clear hx
                                      generalize p4.alloc (.cells #[.slice awy 3 cwy, .func (.func gfw) #[] lbw] 31) = z18 at *
                                      have HWX := Lib.hid (show ∃ swy cwy, z18.cell? ⟨x30, 0, none⟩ = some (.slice swy 3 cwy) ∧ Ls z18 (.slice swy 3 cwy) [4, 2, 3] from ⟨_, _, hwy0, hwy⟩)
                                      clear hwy0 hwy
                                      have HCC := Lib.hid (Chg.refl (fun _ => False) z18)
                                      have h1 := (ascalar_any 5 z18)
                                      go_wp2_with fail
                                      refine h1.mono ?_
                                      clear h1
                                      rintro e9 p5 ⟨v5, rfl, ho5, hq5⟩
                                      replace HB := Lib.hid (HB.out.fr (hq5))
                                      replace HC := Lib.hid (HC.out.tr (hq5))
                                      replace HCC := Lib.hid (HCC.out.tr hq5)
                                      have h1 := (avector_any (.slice none 0 0) [] p5 (Ls.nil _) (by decide))
                                      go_wp2_with fail
                                      refine h1.mono ?_
                                      clear h1
                                      rintro e9 p6 ⟨v6, rfl, ho6, hq6⟩
                                      replace HB := Lib.hid (HB.out.fr (hq6))
                                      replace HC := Lib.hid (HC.out.tr (hq6))
                                      replace HCC := Lib.hid (HCC.out.tr hq6)
                                      have h1 := n18 _ _ _ (ho5.ara.fr hq6) (show Ara p6 v6 nG from ho6.ara)
                                      go_wp2_with fail
                                      refine h1.mono ?_
                                      clear h1 ho5 ho6 hq5 hq6
                                      rintro e9 u7 ⟨v9, rfl, ho9, hC9⟩
                                      obtain ⟨a9, c9, b9, d9, rfl, _, _⟩ := ara_new ho9
                                      have hC8 := (hC9).alloc (.cells #[.int .i64 nG.k, .slice a9 nG.s.length c9, .slice b9 nG.e.length d9] 25)
                                      replace HB := Lib.hid ((HB.out.fr hC8).cons (BoxA.new (A := nG) 25 ho9.ara))
                                      replace HC := Lib.hid (HC.out.tr hC8)
                                      obtain ⟨x32, hx⟩ : ∃ x, u7.heap.size = x := ⟨_, rfl⟩
                                      rw [hx] at HB
                                      replace HCC := Lib.hid (HCC.out.tr hC8)
                                      clear hC8 hC9 ho9
                                      go_upto_region 19 with (fail)
                                      clear hx
                                      generalize u7.alloc (.cells #[.int .i64 nG.k, .slice a9 nG.s.length c9, .slice b9 nG.e.length d9] 25) = z19 at *
                                      have h1 := (ascalar_any 5 z19)
                                      go_wp2_with fail
                                      refine h1.mono ?_
                                      clear h1
                                      rintro e9 p7 ⟨v7, rfl, ho7, hq7⟩
                                      replace HB := Lib.hid (HB.out.fr (hq7))
                                      replace HC := Lib.hid (HC.out.tr (hq7))
                                      replace HCC := Lib.hid (HCC.out.tr hq7)
                                      have h1 := (ascalar_any 7 p7)
                                      go_wp2_with fail
                                      refine h1.mono ?_
                                      clear h1
                                      rintro e9 p8 ⟨v8, rfl, ho8, hq8⟩
                                      replace HB := Lib.hid (HB.out.fr (hq8))
                                      replace HC := Lib.hid (HC.out.tr (hq8))
                                      replace HCC := Lib.hid (HCC.out.tr hq8)
                                      have h1 := n19 _ _ _ (ho7.ara.fr hq8) (show Ara p8 v8 nH from ho8.ara)
                                      go_wp2_with fail
                                      refine h1.mono ?_
                                      clear h1 ho7 ho8 hq7 hq8
                                      rintro e9 u8 ⟨v9, rfl, ho9, hC9⟩
                                      obtain ⟨a9, c9, b9, d9, rfl, _, _⟩ := ara_new ho9
                                      have hC8 := (hC9).alloc (.cells #[.int .i64 nH.k, .slice a9 nH.s.length c9, .slice b9 nH.e.length d9] 25)
                                      replace HB := Lib.hid ((HB.out.fr hC8).cons (BoxA.new (A := nH) 25 ho9.ara))
                                      replace HC := Lib.hid (HC.out.tr hC8)
                                      obtain ⟨x34, hx⟩ : ∃ x, u8.heap.size = x := ⟨_, rfl⟩
                                      rw [hx] at HB
                                      replace HCC := Lib.hid (HCC.out.tr hC8)
                                      clear hC8 hC9 ho9
                                      go_upto_region 20 with (fail)
                                      clear hx
                                      generalize u8.alloc (.cells #[.int .i64 nH.k, .slice a9 nH.s.length c9, .slice b9 nH.e.length d9] 25) = z20 at *
                                      have h1 := (ch_ab z20)
                                      go_wp2_with fail
                                      refine h1.mono ?_
                                      clear h1
                                      rintro e9 p9 ⟨v9, rfl, ho9, hq9⟩
                                      replace HB := Lib.hid (HB.out.fr (hq9))
                                      replace HC := Lib.hid (HC.out.tr (hq9))
                                      replace HCC := Lib.hid (HCC.out.tr hq9)
                                      have h1 := n20 _ _ (show Ara p9 v9 nAB from ho9.ara)
                                      go_wp2_with fail
                                      refine h1.mono ?_
                                      clear h1 ho9 hq9
                                      rintro e9 u9 ⟨v9, rfl, ho9, hC9⟩
                                      obtain ⟨a9, c9, b9, d9, rfl, _, _⟩ := ara_new ho9
                                      have hC8 := (hC9).alloc (.cells #[.int .i64 nK.k, .slice a9 nK.s.length c9, .slice b9 nK.e.length d9] 25)
                                      replace HB := Lib.hid ((HB.out.fr hC8).cons (BoxA.new (A := nK) 25 ho9.ara))
                                      replace HC := Lib.hid (HC.out.tr hC8)
                                      obtain ⟨x36, hx⟩ : ∃ x, u9.heap.size = x := ⟨_, rfl⟩
                                      rw [hx] at HB
                                      replace HCC := Lib.hid (HCC.out.tr hC8)
                                      clear hC8 hC9 ho9
                                      go_upto_region 21 with (fail)
                                      clear hx
                                      generalize u9.alloc (.cells #[.int .i64 nK.k, .slice a9 nK.s.length c9, .slice b9 nK.e.length d9] 25) = z21 at *
                                      have h1 := n21 (.agg #[.int .i64 0, .slice none 0 0, .slice none 0 0]) z21 (Ara.mk (k := 0) (Ls.nil _) (Ls.nil _))
                                      go_wp2_with fail
                                      refine h1.mono ?_
                                      clear h1
                                      rintro e9 u10 ⟨v9, rfl, ho9, hC9⟩
                                      obtain ⟨a9, c9, b9, d9, rfl, _, _⟩ := ara_new ho9
                                      have hC8 := (hC9).alloc (.cells #[.int .i64 noA.k, .slice a9 noA.s.length c9, .slice b9 noA.e.length d9] 25)
                                      replace HB := Lib.hid ((HB.out.fr hC8).cons (BoxA.new (A := noA) 25 ho9.ara))
                                      replace HC := Lib.hid (HC.out.tr hC8)
                                      obtain ⟨x38, hx⟩ : ∃ x, u10.heap.size = x := ⟨_, rfl⟩
                                      rw [hx] at HB
                                      replace HCC := Lib.hid (HCC.out.tr hC8)
                                      clear hC8 hC9 ho9
                                      go_upto_region 22 with (fail)
                                      clear hx
                                      generalize u10.alloc (.cells #[.int .i64 noA.k, .slice a9 noA.s.length c9, .slice b9 noA.e.length d9] 25) = z22 at *
                                      have hCl := (Chg.refl (fun _ => False) z22).alloc (.cells #[.int .i64 (-1)] 3)
                                      have hl := lit_ls z22 3 [-1] 1 rfl #[.int .i64 (-1)] rfl (by simp)
                                      have h1 := n22 _ _ hl
                                      go_wp2_with fail
                                      refine h1.mono ?_
                                      clear h1 hl
                                      rintro e9 p10 ⟨rfl, hq10⟩
                                      have hq11 := (hCl.tr hq10).alloc (.cells #[.slice none 0 0, .nilFunc] 31)
                                      replace HB := Lib.hid (HB.out.fr hq11)
                                      replace HC := Lib.hid (HC.out.tr hq11)
                                      replace HCC := Lib.hid (HCC.out.tr hq11)
                                      clear hq10 hq11 hCl
                                      go_upto_region 23 with (fail)
                                      generalize p10.alloc (.cells #[.slice none 0 0, .nilFunc] 31) = z23 at *
                                      have HWY := Lib.hid (show ∃ swy cwy, z23.cell? ⟨x30, 0, none⟩ = some (.slice swy 3 cwy) ∧ Ls z23 (.slice swy 3 cwy) [4, 2, 3] from by obtain ⟨s, c, h1, h2⟩ := HWX.out; exact ⟨s, c, HCC.out.cell h1 id, h2.fr HCC.out⟩)
                                      have HCH := Lib.hid ch_ba
                                      clear HCC HWX
                                      go_cut [42] (fun s wx => s = .bool true ∧ Chg (fun _ => False) z23 wx)
                                      case first =>
                                        as_aux_lemma =>
                                          obtain ⟨sa_0, cs_0, sb_0, cb_0, ⟨y0_0, y1_0, y2_0⟩, hb_0⟩ := HB.out (x26, nD) (by simp)
                                          obtain ⟨sa_1, cs_1, sb_1, cb_1, ⟨y0_1, y1_1, y2_1⟩, hb_1⟩ := HB.out (x28, nF) (by simp)
                                          obtain ⟨swy, cwy, hwc, hwl⟩ := HWY.out
                                          obtain ⟨sa_3, cs_3, sb_3, cb_3, ⟨y0_3, y1_3, y2_3⟩, hb_3⟩ := HB.out (x32, nG) (by simp)
                                          obtain ⟨sa_4, cs_4, sb_4, cb_4, ⟨y0_4, y1_4, y2_4⟩, hb_4⟩ := HB.out (x34, nH) (by simp)
                                          obtain ⟨sa_5, cs_5, sb_5, cb_5, ⟨y0_5, y1_5, y2_5⟩, hb_5⟩ := HB.out (x36, nK) (by simp)
                                          have KP := Lib.hid (show ∀ w', Chg (fun _ => False) z23 w' → (Chg (fun _ => False) z23 w' ∧ w'.cell? ⟨x26, 0, none⟩ = some (.int .i64 nD.k) ∧ w'.cell? ⟨x26, 1, none⟩ = some (.slice sa_0 nD.s.length cs_0) ∧ w'.cell? ⟨x26, 2, none⟩ = some (.slice sb_0 nD.e.length cb_0) ∧ w'.cell? ⟨x28, 0, none⟩ = some (.int .i64 nF.k) ∧ w'.cell? ⟨x28, 1, none⟩ = some (.slice sa_1 nF.s.length cs_1) ∧ w'.cell? ⟨x28, 2, none⟩ = some (.slice sb_1 nF.e.length cb_1) ∧ w'.cell? ⟨x30, 0, none⟩ = some (.slice swy 3 cwy) ∧ w'.cell? ⟨x32, 0, none⟩ = some (.int .i64 nG.k) ∧ w'.cell? ⟨x32, 1, none⟩ = some (.slice sa_3 nG.s.length cs_3) ∧ w'.cell? ⟨x32, 2, none⟩ = some (.slice sb_3 nG.e.length cb_3) ∧ w'.cell? ⟨x34, 0, none⟩ = some (.int .i64 nH.k) ∧ w'.cell? ⟨x34, 1, none⟩ = some (.slice sa_4 nH.s.length cs_4) ∧ w'.cell? ⟨x34, 2, none⟩ = some (.slice sb_4 nH.e.length cb_4) ∧ w'.cell? ⟨x36, 0, none⟩ = some (.int .i64 nK.k) ∧ w'.cell? ⟨x36, 1, none⟩ = some (.slice sa_5 nK.s.length cs_5) ∧ w'.cell? ⟨x36, 2, none⟩ = some (.slice sb_5 nK.e.length cb_5)) from fun w' h => ⟨h, h.cell y0_0 id, h.cell y1_0 id, h.cell y2_0 id, h.cell y0_1 id, h.cell y1_1 id, h.cell y2_1 id, h.cell hwc id, h.cell y0_3 id, h.cell y1_3 id, h.cell y2_3 id, h.cell y0_4 id, h.cell y1_4 id, h.cell y2_4 id, h.cell y0_5 id, h.cell y1_5 id, h.cell y2_5 id⟩)
                                          have H_0 := Lib.hid (show ∀ w' v, Chg (fun _ => False) z23 w' → Ara w' v nD → Calls Try.prog 29 #[.agg #[.int .i64 nD.k, .slice sa_0 nD.s.length cs_0, .slice sb_0 nD.e.length cb_0], .int .i64 0, v] w' (GaveBo w' true) from fun w' v h hv => by have h2 := is_any _ _ nD nD 0 w' (hb_0.fr h) hv (by decide) (by decide); rw [isB_iff.2 ⟨rfl, rfl⟩] at h2; exact h2)
                                          have H_1 := Lib.hid (show ∀ w' v, Chg (fun _ => False) z23 w' → Ara w' v nF → Calls Try.prog 29 #[.agg #[.int .i64 nF.k, .slice sa_1 nF.s.length cs_1, .slice sb_1 nF.e.length cb_1], .int .i64 0, v] w' (GaveBo w' true) from fun w' v h hv => by have h2 := is_any _ _ nF nF 0 w' (hb_1.fr h) hv (by decide) (by decide); rw [isB_iff.2 ⟨rfl, rfl⟩] at h2; exact h2)
                                          have HSH := Lib.hid (show ∀ w' v, Chg (fun _ => False) z23 w' → Ls w' v [4, 2, 3] → Calls Try.prog 43 #[.slice swy 3 cwy, v] w' (GaveBo w' true) from fun w' v h hv => by have h2 := r11shapes_any _ v [4, 2, 3] [4, 2, 3] w' (hwl.fr h) hv (by decide); rw [decide_eq_true rfl] at h2; exact h2)
                                          have H_3 := Lib.hid (show ∀ w' v, Chg (fun _ => False) z23 w' → Ara w' v nG → Calls Try.prog 29 #[.agg #[.int .i64 nG.k, .slice sa_3 nG.s.length cs_3, .slice sb_3 nG.e.length cb_3], .int .i64 0, v] w' (GaveBo w' true) from fun w' v h hv => by have h2 := is_any _ _ nG nG 0 w' (hb_3.fr h) hv (by decide) (by decide); rw [isB_iff.2 ⟨rfl, rfl⟩] at h2; exact h2)
                                          have H_4 := Lib.hid (show ∀ w' v, Chg (fun _ => False) z23 w' → Ara w' v nH → Calls Try.prog 29 #[.agg #[.int .i64 nH.k, .slice sa_4 nH.s.length cs_4, .slice sb_4 nH.e.length cb_4], .int .i64 0, v] w' (GaveBo w' true) from fun w' v h hv => by have h2 := is_any _ _ nH nH 0 w' (hb_4.fr h) hv (by decide) (by decide); rw [isB_iff.2 ⟨rfl, rfl⟩] at h2; exact h2)
                                          have H_5 := Lib.hid (show ∀ w' v, Chg (fun _ => False) z23 w' → Ara w' v nK → Calls Try.prog 29 #[.agg #[.int .i64 nK.k, .slice sa_5 nK.s.length cs_5, .slice sb_5 nK.e.length cb_5], .int .i64 0, v] w' (GaveBo w' true) from fun w' v h hv => by have h2 := is_any _ _ nK nK 0 w' (hb_5.fr h) hv (by decide) (by decide); rw [isB_iff.2 ⟨rfl, rfl⟩] at h2; exact h2)
                                          go_region_held3 (fun w' => (Chg (fun _ => False) z23 w' ∧ w'.cell? ⟨x26, 0, none⟩ = some (.int .i64 nD.k) ∧ w'.cell? ⟨x26, 1, none⟩ = some (.slice sa_0 nD.s.length cs_0) ∧ w'.cell? ⟨x26, 2, none⟩ = some (.slice sb_0 nD.e.length cb_0) ∧ w'.cell? ⟨x28, 0, none⟩ = some (.int .i64 nF.k) ∧ w'.cell? ⟨x28, 1, none⟩ = some (.slice sa_1 nF.s.length cs_1) ∧ w'.cell? ⟨x28, 2, none⟩ = some (.slice sb_1 nF.e.length cb_1) ∧ w'.cell? ⟨x30, 0, none⟩ = some (.slice swy 3 cwy) ∧ w'.cell? ⟨x32, 0, none⟩ = some (.int .i64 nG.k) ∧ w'.cell? ⟨x32, 1, none⟩ = some (.slice sa_3 nG.s.length cs_3) ∧ w'.cell? ⟨x32, 2, none⟩ = some (.slice sb_3 nG.e.length cb_3) ∧ w'.cell? ⟨x34, 0, none⟩ = some (.int .i64 nH.k) ∧ w'.cell? ⟨x34, 1, none⟩ = some (.slice sa_4 nH.s.length cs_4) ∧ w'.cell? ⟨x34, 2, none⟩ = some (.slice sb_4 nH.e.length cb_4) ∧ w'.cell? ⟨x36, 0, none⟩ = some (.int .i64 nK.k) ∧ w'.cell? ⟨x36, 1, none⟩ = some (.slice sa_5 nK.s.length cs_5) ∧ w'.cell? ⟨x36, 2, none⟩ = some (.slice sb_5 nK.e.length cb_5))) ((refine KP.out _ ?_; repeat (first | (with_reducible exact Chg.refl _ _) | (with_reducible assumption) | (with_reducible refine mchg_drew ?_) | (with_reducible refine mchg_alloc ?_) | (with_reducible refine Chg.tr ?_ hq11) | (with_reducible refine Chg.tr ?_ hq10) | (with_reducible refine Chg.tr ?_ hq9) | (with_reducible refine Chg.tr ?_ hq8) | (with_reducible refine Chg.tr ?_ hq7) | (with_reducible refine Chg.tr ?_ hq6) | (with_reducible refine Chg.tr ?_ hq5) | (with_reducible refine Chg.tr ?_ hq4) | (with_reducible refine Chg.tr ?_ hq3) | (with_reducible refine Chg.tr ?_ hq2) | (with_reducible refine Chg.tr ?_ hq1)))) (first
                                            | (go_at_call 41
                                               refine (matrix_any _ 2 [1, 3, 2, 4] _ (by decide) ?_ (by decide)).mono ?_
                                               · first | exact lit_ls _ _ [1, 3, 2, 4] 4 rfl _ rfl (by decide) | exact litD _ _ [1, 3, 2, 4] 4 rfl _ rfl (by decide)
                                               rintro e9 q1 ⟨u1, rfl, hu1, hq1⟩
                                               have hv1 := Lib.hid (show Ara q1 u1 nD from hu1))
                                            | (go_at_call 29
                                               with_reducible refine (H_0.out _ _ ?_ ?_).mono ?_
                                               · repeat (first | (with_reducible exact Chg.refl _ _) | (with_reducible assumption) | (with_reducible refine mchg_drew ?_) | (with_reducible refine mchg_alloc ?_) | (with_reducible refine Chg.tr ?_ hq1))
                                               · first | exact hv1.out | exact hv1.out.fr ((Chg.refl _ _).drew)
                                               rintro e9 q2 ⟨rfl, hq2⟩)
                                            | (go_at_call 31
                                               (with_reducible refine (ascalar_any 9 _).mono ?_)
                                               rintro e9 q3 ⟨u3, rfl, hu3, hq3⟩
                                               have hv3 := Lib.hid (show Ara q3 u3 nF from hu3.ara))
                                            | (go_at_call 29
                                               with_reducible refine (H_1.out _ _ ?_ ?_).mono ?_
                                               · repeat (first | (with_reducible exact Chg.refl _ _) | (with_reducible assumption) | (with_reducible refine mchg_drew ?_) | (with_reducible refine mchg_alloc ?_) | (with_reducible refine Chg.tr ?_ hq3) | (with_reducible refine Chg.tr ?_ hq2) | (with_reducible refine Chg.tr ?_ hq1))
                                               · first | exact hv3.out | exact hv3.out.fr ((Chg.refl _ _).drew)
                                               rintro e9 q4 ⟨rfl, hq4⟩)
                                            | (go_at_call 43
                                               with_reducible refine (HSH.out _ _ ?_ ?_).mono ?_
                                               · repeat (first | (with_reducible exact Chg.refl _ _) | (with_reducible assumption) | (with_reducible refine mchg_drew ?_) | (with_reducible refine mchg_alloc ?_) | (with_reducible refine Chg.tr ?_ hq4) | (with_reducible refine Chg.tr ?_ hq3) | (with_reducible refine Chg.tr ?_ hq2) | (with_reducible refine Chg.tr ?_ hq1))
                                               · first | exact lit_ls _ _ [4, 2, 3] 3 rfl _ rfl (by decide) | exact litD _ _ [4, 2, 3] 3 rfl _ rfl (by decide)
                                               rintro e9 q5 ⟨rfl, hq5⟩)
                                            | (go_at_call 39
                                               refine (avector_any _ [] _ ?_ (by decide)).mono ?_
                                               · exact Ls.nil _
                                               rintro e9 q6 ⟨u6, rfl, hu6, hq6⟩
                                               have hv6 := Lib.hid (show Ara q6 u6 nG from hu6.ara))
                                            | (go_at_call 29
                                               with_reducible refine (H_3.out _ _ ?_ ?_).mono ?_
                                               · repeat (first | (with_reducible exact Chg.refl _ _) | (with_reducible assumption) | (with_reducible refine mchg_drew ?_) | (with_reducible refine mchg_alloc ?_) | (with_reducible refine Chg.tr ?_ hq6) | (with_reducible refine Chg.tr ?_ hq5) | (with_reducible refine Chg.tr ?_ hq4) | (with_reducible refine Chg.tr ?_ hq3) | (with_reducible refine Chg.tr ?_ hq2) | (with_reducible refine Chg.tr ?_ hq1))
                                               · first | exact hv6.out | exact hv6.out.fr ((Chg.refl _ _).drew)
                                               rintro e9 q7 ⟨rfl, hq7⟩)
                                            | (go_at_call 31
                                               (with_reducible refine (ascalar_any 7 _).mono ?_)
                                               rintro e9 q8 ⟨u8, rfl, hu8, hq8⟩
                                               have hv8 := Lib.hid (show Ara q8 u8 nH from hu8.ara))
                                            | (go_at_call 29
                                               with_reducible refine (H_4.out _ _ ?_ ?_).mono ?_
                                               · repeat (first | (with_reducible exact Chg.refl _ _) | (with_reducible assumption) | (with_reducible refine mchg_drew ?_) | (with_reducible refine mchg_alloc ?_) | (with_reducible refine Chg.tr ?_ hq8) | (with_reducible refine Chg.tr ?_ hq7) | (with_reducible refine Chg.tr ?_ hq6) | (with_reducible refine Chg.tr ?_ hq5) | (with_reducible refine Chg.tr ?_ hq4) | (with_reducible refine Chg.tr ?_ hq3) | (with_reducible refine Chg.tr ?_ hq2) | (with_reducible refine Chg.tr ?_ hq1))
                                               · first | exact hv8.out | exact hv8.out.fr ((Chg.refl _ _).drew)
                                               rintro e9 q9 ⟨rfl, hq9⟩)
                                            | (go_at_call 42
                                               (with_reducible refine (HCH.out _).mono ?_)
                                               rintro e9 q10 ⟨u10, rfl, hu10, hq10⟩
                                               have hv10 := Lib.hid (show Ara q10 u10 nK from hu10.ara))
                                            | (go_at_call 29
                                               with_reducible refine (H_5.out _ _ ?_ ?_).mono ?_
                                               · repeat (first | (with_reducible exact Chg.refl _ _) | (with_reducible assumption) | (with_reducible refine mchg_drew ?_) | (with_reducible refine mchg_alloc ?_) | (with_reducible refine Chg.tr ?_ hq10) | (with_reducible refine Chg.tr ?_ hq9) | (with_reducible refine Chg.tr ?_ hq8) | (with_reducible refine Chg.tr ?_ hq7) | (with_reducible refine Chg.tr ?_ hq6) | (with_reducible refine Chg.tr ?_ hq5) | (with_reducible refine Chg.tr ?_ hq4) | (with_reducible refine Chg.tr ?_ hq3) | (with_reducible refine Chg.tr ?_ hq2) | (with_reducible refine Chg.tr ?_ hq1))
                                               · first | exact hv10.out | exact hv10.out.fr ((Chg.refl _ _).drew)
                                               rintro e9 q11 ⟨rfl, hq11⟩)
                                            | fail)
                                          all_goals
                                            rename_i hHd
                                            go_wp2_with fail
                                            go_meet
                                            exact ⟨rfl, hHd.1⟩
                                      case rest =>
                                        as_aux_lemma =>
                                          obtain ⟨rfl, hCc⟩ := hcut
                                          replace HB := Lib.hid (HB.out.fr hCc)
                                          replace HC := Lib.hid (HC.out.tr hCc)
                                          clear hCc
                                          generalize wc = y23 at *
                                          have h1 := alive_any y23
                                          go_wp2_with fail
                                          refine h1.mono ?_
                                          clear h1
                                          rintro e9 w9 ⟨rfl, hC9⟩
                                          go_wp2
                                          go_ret
                                          exact ⟨rfl, HC.out.tr hC9⟩
end Go.Proofs.Ytmmbdhfljabefaa
