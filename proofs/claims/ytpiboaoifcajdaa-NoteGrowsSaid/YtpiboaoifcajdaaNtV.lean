/- alive; NoteBack's walk. -/
import Derived.Test.YtpiboaoifcajdaaNtZ
import Derived.Test.YtpiboaoifcajdaaNtO
namespace Go.Proofs.Ytpiboaoifcajdaa
open Go.RowKit Go.Shelf

theorem nts_lit (W : World) (cs : Array Value) (t : TypeId) (l : List Nt) (c : Nat) (h : cs.toList = flatN l) : Nts (W.alloc (.cells cs t)) (.slice (some ⟨W.heap.size, 0, none⟩) l.length c) l := by
  refine ⟨⟨_, _, rfl, fun e => (by cases e)⟩, fun j hj => ⟨W.heap.size, 0, c, rfl, ?_⟩⟩
  have q (i : Nat) (u : Value) (hi : i < 4) (hu : (ntL l[j])[i]? = some u) : (W.alloc (.cells cs t)).cell? ⟨W.heap.size, 0 + j * 4 + i, none⟩ = some u := by
    rw [Nat.zero_add]
    exact new_cell W cs t (by rw [← Array.getElem?_toList, h, flatN_at l j i hj hi]; exact hu)
  exact ⟨q 0 _ (by omega) rfl, q 1 _ (by omega) rfl, q 2 _ (by omega) rfl, q 3 _ (by omega) rfl⟩
theorem alive_begin : (⟨1, 4, 0, 0⟩ : Nt).may = true := by decide
theorem alive_tile : (⟨2, 0, 0, 7⟩ : Nt).may = true := by decide
theorem alive_log : begN 4 [encN ⟨1, 4, 0, 0⟩, encN ⟨2, 0, 0, 7⟩] = true ∧ noteN 4 [encN ⟨1, 4, 0, 0⟩, encN ⟨2, 0, 0, 7⟩] = [⟨2, 0, 0, 7⟩] := by
  obtain ⟨d1, n1, _⟩ := enc_may alive_begin (Nt.ok_of (by unfold In64; decide) (by unfold In64; decide) (by unfold In64; decide) (by unfold In64; decide))
  obtain ⟨d2, n2, _⟩ := enc_may alive_tile (Nt.ok_of (by unfold In64; decide) (by unfold In64; decide) (by unfold In64; decide) (by unfold In64; decide))
  have hb : begN 4 [encN ⟨1, 4, 0, 0⟩, encN ⟨2, 0, 0, 7⟩] = true := by rw [begN_cons]; exact decide_eq_true ⟨d1, by rw [n1], by rw [n1]⟩
  refine ⟨hb, ?_⟩
  unfold noteN
  rw [if_pos hb, List.tail_cons]
  unfold takeN
  rw [if_pos d2, n2]
  simp [takeN]
theorem alive_len : (encN ⟨1, 4, 0, 0⟩).length = 17 ∧ (encN ⟨2, 0, 0, 7⟩).length = 17 := by
  obtain ⟨_, _, _, d1⟩ := enc_may alive_begin (Nt.ok_of (by unfold In64; decide) (by unfold In64; decide) (by unfold In64; decide) (by unfold In64; decide))
  obtain ⟨_, _, _, d2⟩ := enc_may alive_tile (Nt.ok_of (by unfold In64; decide) (by unfold In64; decide) (by unfold In64; decide) (by unfold In64; decide))
  exact ⟨d1, d2⟩
theorem alive_text : encL 2 2 3 9 = [2, 0, 0, 0, 2, 0, 0, 0, 3, 0, 0, 0, 0, 0, 0, 0, 9] ∧ encE 2 2 3 9 = 0 := by decide +kernel
set_option maxRecDepth 100000 in
set_option maxHeartbeats 1000000 in
/-- The chapter's first examples. -/
theorem alive9_any (w : World) : Calls Try.prog 13 #[] w (True_ w) := by
  have p1 := fun w => encode_any 2 2 3 9 (by decide) w
  rw [alive_text.1, alive_text.2] at p1
  unfold noteV at p1
  go_enter Try.func13, Try.ntmps13
  go_wp2_with fail
  refine (p1 _).mono ?_
  clear p1
  rintro e w1 ⟨v1, rfl, ho1, hC1⟩
  obtain ⟨ao1, L1, c1, rfl, hL1⟩ := owns_name ho1
  have hb := bytes9_any _ [⟨1, 4, 0, 0⟩, ⟨2, 0, 0, 7⟩] _ (nts_lit w1 #[.int .i64 1, .int .i64 4, .int .i64 0, .int .i64 0, .int .i64 2, .int .i64 0, .int .i64 0, .int .i64 7] 23 [⟨1, 4, 0, 0⟩, ⟨2, 0, 0, 7⟩] 2 rfl) (by simp [Nt.ok, In64]) (by simp)
  go_wp2_with fail
  refine hb.mono ?_
  clear hb
  rintro e w2 ⟨v2, rfl, hR2, hC2⟩
  have hP2 := hR2.pay
  obtain ⟨vs, hv1, hv2, _⟩ := id hP2
  obtain ⟨ao, c, hv, _⟩ := hv1.form
  rw [hv2] at hv
  simp only [List.map_cons, List.map_nil, List.length_cons, List.length_nil, Nat.zero_add, Nat.reduceAdd] at hv
  subst hv
  have hnew := new_any 4 ao 2 c _ w2 hP2 rfl (by decide) (fun xs hx => by
    simp only [List.map_cons, List.map_nil, List.mem_cons, List.not_mem_nil, or_false] at hx
    exact hx.elim (fun h => h ▸ Nat.le_trans (Nat.le_of_eq alive_len.1) (by decide)) (fun h => h ▸ Nat.le_trans (Nat.le_of_eq alive_len.2) (by decide)))
  clear hv1 hv2 hR2 hP2
  go_wp2_with fail
  refine hnew.mono ?_
  clear hnew
  rintro e w3 ⟨lb, mb, base, v, rfl, hL, hmb, hC3⟩
  obtain ⟨g1, g2, g3⟩ := log_spec 4 [encN ⟨1, 4, 0, 0⟩, encN ⟨2, 0, 0, 7⟩]
  rw [alive_log.1] at g1
  rw [alive_log.2] at g3
  have g3' : (logOf 4 [encN ⟨1, 4, 0, 0⟩, encN ⟨2, 0, 0, 7⟩]).fl = [⟨2, 0, 0, 7⟩] := g3
  simp only [List.map_cons, List.map_nil] at hL
  generalize logOf 4 [encN ⟨1, 4, 0, 0⟩, encN ⟨2, 0, 0, 7⟩] = t at *
  obtain ⟨bg, tl, fl, stp⟩ := t
  simp only at g1 g3'
  subst g1 g3'
  have t1 := tile_any hL (by simp [Nt.ok, In64]) 0 0 in64_0 in64_0
  rw [show FileV (fileOf [⟨2, 0, 0, 7⟩] 2 0 0) = .tuple #[.int .i64 7, .bool true] by simp [FileV, fileOf]] at t1
  go_wp2_with fail
  refine t1.mono ?_
  clear t1
  rintro e w4 ⟨rfl, hC4⟩
  have t2 := tile_any (hL.chg hC4 id id (fun _ _ => id)) (by simp [Nt.ok, In64]) 0 1 in64_0 (by unfold In64; decide)
  rw [show FileV (fileOf [⟨2, 0, 0, 7⟩] 2 0 1) = .tuple #[.int .i64 0, .bool false] by simp [FileV, fileOf]] at t2
  go_wp2_with fail
  refine t2.mono ?_
  clear t2
  rintro e w5 ⟨rfl, hC5⟩
  have hb5 := begun_any ((hL.chg hC4 id id (fun _ _ => id)).chg hC5 id id (fun _ _ => id))
  have hCC := (((((Chg.refl (fun _ => False) w1).alloc (.cells #[.int .i64 1, .int .i64 4, .int .i64 0, .int .i64 0, .int .i64 2, .int .i64 0, .int .i64 0, .int .i64 7] 23)).tr hC2).tr hC3).tr hC4).tr hC5
  obtain ⟨X, hX, hX2, _⟩ := str_name [2, 0, 0, 0, 2, 0, 0, 0, 3, 0, 0, 0, 0, 0, 0, 0, 9]
  have k1 := conv_sl ((Sl.of_owns ho1).fr hCC)
  rw [hX] at k1
  have HX := Lib.hid hX2
  have hE := hC1.tr hCC
  clear hX hX2 hL ho1 hC5 hC4 hC3 hC2 hC1 hCC
  go_wp2_with (go_at_call 18; refine hb5.mono ?_; rintro e w6 ⟨rfl, rfl⟩)
  go_ret
  exact ⟨rfl, hE⟩
theorem back_big (k a b n : Int) (ao : Option Addr) (c m : Nat) (W : World) (h1 : (100 : Int) < m) : Calls Try.prog 4 #[.agg #[.int .i64 k, .int .i64 a, .int .i64 b, .int .i64 n], .slice ao m c] W (True_ W) := by
  go_enter Try.func4, Try.ntmps4
  go_wp2_with (go_at_call 13; refine (alive9_any _).mono ?_; rintro e w1 ⟨rfl, hC1⟩)
  go_ret
  exact ⟨rfl, ((Chg.refl _ W).alloc _).tr hC1⟩
set_option maxRecDepth 100000 in
set_option maxHeartbeats 3000000 in
theorem back_main (k a b nn : Int) (ok : (Nt.mk k a b nn).ok) (ao : Option Addr) (c n : Nat) (xs : List UInt8) (W : World) (m1 : xs.length = n) (hS : Sl W (.slice ao n c) (xs.map B)) (h1 : ¬ (100 : Int) < n) : Calls Try.prog 4 #[.agg #[.int .i64 k, .int .i64 a, .int .i64 b, .int .i64 nn], .slice ao n c] W (True_ W) := by
  have p1 := fun w => encode_any k a b nn ok.2.2.2.2 w
  unfold noteV at p1
  have hlen : (encL k a b nn).length ≤ 140737488355328 := by
    unfold encL
    split
    · rw [noteL_length]; decide
    · decide
  have HS := Lib.hid hS
  have HM := Lib.hid m1
  clear hS m1
  have hA := (Chg.refl (fun _ => False) W).alloc (.cells #[.int .i64 k, .int .i64 a, .int .i64 b, .int .i64 nn] 23)
  go_enter Try.func4, Try.ntmps4
  go_wp2_with fail
  refine (alive9_any _).mono ?_
  rintro e w1 ⟨rfl, hC1⟩
  have d0 : w1.cell? ⟨W.heap.size, 0, none⟩ = some (.int .i64 k) := hC1.cell (new_cell W _ _ rfl) id
  have d1 : w1.cell? ⟨W.heap.size, 1, none⟩ = some (.int .i64 a) := hC1.cell (new_cell W _ _ rfl) id
  have d2 : w1.cell? ⟨W.heap.size, 2, none⟩ = some (.int .i64 b) := hC1.cell (new_cell W _ _ rfl) id
  have d3 : w1.cell? ⟨W.heap.size, 3, none⟩ = some (.int .i64 nn) := hC1.cell (new_cell W _ _ rfl) id
  by_cases hm : (Nt.mk k a b nn).may = true
  · obtain ⟨f1, f2, f3, _⟩ := enc_may hm ok
    rw [encN_mk] at f1 f2
    simp only at f3
    rw [f3] at p1
    go_wp2_with fail
    refine (p1 _).mono ?_
    clear p1
    rintro e w2 ⟨v2, rfl, ho2, hC2⟩
    obtain ⟨ao2, L2, c2, rfl, hL2⟩ := owns_name ho2
    have q1 := decode_any _ _ w2 (Sl.of_owns ho2) hlen
    rw [f1, decV_noteP] at q1
    unfold ntV at q1
    clear f1
    replace d0 := hC2.cell d0 id
    replace d1 := hC2.cell d1 id
    replace d2 := hC2.cell d2 id
    replace d3 := hC2.cell d3 id
    have HH := Lib.hid ho2
    clear ho2
    rw [f2] at q1
    clear f2
    go_wp2_with fail
    refine q1.mono ?_
    clear q1
    rintro e w3 ⟨rfl, hC3⟩
    replace d0 := (hC3.alloc (.cells #[.int .i64 k, .int .i64 a, .int .i64 b, .int .i64 nn] 23)).cell d0 id
    replace d1 := (hC3.alloc (.cells #[.int .i64 k, .int .i64 a, .int .i64 b, .int .i64 nn] 23)).cell d1 id
    replace d2 := (hC3.alloc (.cells #[.int .i64 k, .int .i64 a, .int .i64 b, .int .i64 nn] 23)).cell d2 id
    replace d3 := (hC3.alloc (.cells #[.int .i64 k, .int .i64 a, .int .i64 b, .int .i64 nn] 23)).cell d3 id
    have y0 : (w3.alloc (.cells #[.int .i64 k, .int .i64 a, .int .i64 b, .int .i64 nn] 23)).cell? ⟨w3.heap.size, 0, none⟩ = some (.int .i64 k) := new_cell w3 _ _ rfl
    have y1 : (w3.alloc (.cells #[.int .i64 k, .int .i64 a, .int .i64 b, .int .i64 nn] 23)).cell? ⟨w3.heap.size, 1, none⟩ = some (.int .i64 a) := new_cell w3 _ _ rfl
    have y2 : (w3.alloc (.cells #[.int .i64 k, .int .i64 a, .int .i64 b, .int .i64 nn] 23)).cell? ⟨w3.heap.size, 2, none⟩ = some (.int .i64 b) := new_cell w3 _ _ rfl
    have y3 : (w3.alloc (.cells #[.int .i64 k, .int .i64 a, .int .i64 b, .int .i64 nn] 23)).cell? ⟨w3.heap.size, 3, none⟩ = some (.int .i64 nn) := new_cell w3 _ _ rfl
    have q2 : ∀ w', Chg (fun _ => False) w3 w' → Calls Try.prog 11 #[.slice ao n c] w' (fun e w'' => e = .returned (.tuple #[decV xs, .int .i64 (decE xs)]) ∧ Chg (fun _ => False) w3 w'') := fun w' h => (decode_any _ xs w' (HS.out.fr ((((hA.tr hC1).tr hC2).tr hC3).tr h)) (by rw [HM.out]; omega)).mono (fun e w'' hh => ⟨hh.1, h.tr hh.2⟩)
    rw [decV_noteP] at q2
    unfold ntV at q2
    obtain ⟨k2, a2, b2, n2, hz⟩ : ∃ k2 a2 b2 n2, noteP xs = ⟨k2, a2, b2, n2⟩ := ⟨_, _, _, _, rfl⟩
    have hok2 := noteP_ok xs
    rw [hz] at q2 hok2
    have p2 := fun w => encode_any k2 a2 b2 n2 hok2.2.2.2.2 w
    unfold noteV at p2
    have HZ := Lib.hid hz
    clear hz
    by_cases hd : decOk xs = true
    · obtain ⟨f1, f2, f3⟩ := dec_enc hd
      rw [HZ.out] at f1 f3
      rw [encN_mk] at f1
      simp only at f3
      rw [decE_ok hd] at q2
      rw [f1, f3] at p2
      clear f1 f3 f2 hd
      go_wp2_with fail
      refine Calls.mono (q2 _ ?hqa) ?_
      case hqa => first | exact (Chg.refl _ _).alloc _ | exact ((Chg.refl _ _).alloc _).drew
      clear q2
      rintro e w4 ⟨rfl, hC4⟩
      go_wp2_with fail
      refine (p2 _).mono ?_
      clear p2
      rintro e w5 ⟨v5, rfl, ho5, hC5⟩
      obtain ⟨ao5, L5, c5, rfl, _⟩ := owns_name ho5
      have hC45 := (hC4.alloc (.cells #[.int .i64 k2, .int .i64 a2, .int .i64 b2, .int .i64 n2] 23)).tr hC5
      have z0 : w5.cell? ⟨w4.heap.size, 0, none⟩ = some (.int .i64 k2) := hC5.cell (new_cell w4 _ _ rfl) id
      have z1 : w5.cell? ⟨w4.heap.size, 1, none⟩ = some (.int .i64 a2) := hC5.cell (new_cell w4 _ _ rfl) id
      have z2 : w5.cell? ⟨w4.heap.size, 2, none⟩ = some (.int .i64 b2) := hC5.cell (new_cell w4 _ _ rfl) id
      have z3 : w5.cell? ⟨w4.heap.size, 3, none⟩ = some (.int .i64 n2) := hC5.cell (new_cell w4 _ _ rfl) id
      obtain ⟨X, hX, hX2, _⟩ := str_name xs
      have j1 := conv_sl (Sl.of_owns ho5)
      have j2 := conv_sl (HS.out.fr ((((hA.tr hC1).tr hC2).tr hC3).tr hC45))
      rw [hX] at j1 j2
      have hE := (((hA.tr hC1).tr hC2).tr hC3).tr hC45
      clear hX hX2 ho5 hC45 hC5 hC4 hC3 hC2 hC1 hA
      go_wp2
      go_ret
      exact ⟨by simp, hE⟩
    · have hd2 : decOk xs = false := by simpa using hd
      have f0 := noteP_no hd2
      rw [HZ.out] at f0
      injection f0 with f0 f1 f2 f3
      subst f0 f1 f2 f3
      rw [decE_no hd2] at q2
      rw [show encE 0 0 0 0 = 90 by decide, show encL 0 0 0 0 = [] by decide] at p2
      clear hd hd2
      go_wp2_with fail
      refine Calls.mono (q2 _ ?hqab) ?_
      case hqab => first | exact (Chg.refl _ _).alloc _ | exact ((Chg.refl _ _).alloc _).drew
      clear q2
      rintro e w4 ⟨rfl, hC4⟩
      go_wp2_with fail
      refine (p2 _).mono ?_
      clear p2
      rintro e w5 ⟨v5, rfl, ho5, hC5⟩
      have hC45 := (hC4.alloc (.cells #[.int .i64 0, .int .i64 0, .int .i64 0, .int .i64 0] 23)).tr hC5
      have z0 : w5.cell? ⟨w4.heap.size, 0, none⟩ = some (.int .i64 0) := hC5.cell (new_cell w4 _ _ rfl) id
      have z1 : w5.cell? ⟨w4.heap.size, 1, none⟩ = some (.int .i64 0) := hC5.cell (new_cell w4 _ _ rfl) id
      have z2 : w5.cell? ⟨w4.heap.size, 2, none⟩ = some (.int .i64 0) := hC5.cell (new_cell w4 _ _ rfl) id
      have z3 : w5.cell? ⟨w4.heap.size, 3, none⟩ = some (.int .i64 0) := hC5.cell (new_cell w4 _ _ rfl) id
      have hE := (((hA.tr hC1).tr hC2).tr hC3).tr hC45
      clear ho5 hC45 hC5 hC4 hC3 hC2 hC1 hA
      go_wp2
      go_ret
      exact ⟨by simp, ((Chg.refl (fun _ => False) _).tr hE)⟩
  · have hm2 : (Nt.mk k a b nn).may = false := by simpa using hm
    obtain ⟨f1, f3, f4⟩ := enc_not hm2
    have f2 := noteP_no (xs := encL k a b nn) (by rw [← encN_mk, f1]; exact dec_short (by simp))
    rw [encN_mk] at f4
    clear f1
    have f1 := f4
    simp only at f3
    rw [f3] at p1
    clear f4
    go_wp2_with fail
    refine (p1 _).mono ?_
    clear p1
    rintro e w2 ⟨v2, rfl, ho2, hC2⟩
    obtain ⟨ao2, L2, c2, rfl, hL2⟩ := owns_name ho2
    have q1 := decode_any _ _ w2 (Sl.of_owns ho2) hlen
    rw [f1, decV_noteP] at q1
    unfold ntV at q1
    clear f1
    replace d0 := hC2.cell d0 id
    replace d1 := hC2.cell d1 id
    replace d2 := hC2.cell d2 id
    replace d3 := hC2.cell d3 id
    have HH := Lib.hid ho2
    clear ho2
    rw [f2] at q1
    clear f2
    go_wp2_with fail
    refine q1.mono ?_
    clear q1
    rintro e w3 ⟨rfl, hC3⟩
    replace d0 := (hC3.alloc (.cells #[.int .i64 0, .int .i64 0, .int .i64 0, .int .i64 0] 23)).cell d0 id
    replace d1 := (hC3.alloc (.cells #[.int .i64 0, .int .i64 0, .int .i64 0, .int .i64 0] 23)).cell d1 id
    replace d2 := (hC3.alloc (.cells #[.int .i64 0, .int .i64 0, .int .i64 0, .int .i64 0] 23)).cell d2 id
    replace d3 := (hC3.alloc (.cells #[.int .i64 0, .int .i64 0, .int .i64 0, .int .i64 0] 23)).cell d3 id
    have y0 : (w3.alloc (.cells #[.int .i64 0, .int .i64 0, .int .i64 0, .int .i64 0] 23)).cell? ⟨w3.heap.size, 0, none⟩ = some (.int .i64 0) := new_cell w3 _ _ rfl
    have y1 : (w3.alloc (.cells #[.int .i64 0, .int .i64 0, .int .i64 0, .int .i64 0] 23)).cell? ⟨w3.heap.size, 1, none⟩ = some (.int .i64 0) := new_cell w3 _ _ rfl
    have y2 : (w3.alloc (.cells #[.int .i64 0, .int .i64 0, .int .i64 0, .int .i64 0] 23)).cell? ⟨w3.heap.size, 2, none⟩ = some (.int .i64 0) := new_cell w3 _ _ rfl
    have y3 : (w3.alloc (.cells #[.int .i64 0, .int .i64 0, .int .i64 0, .int .i64 0] 23)).cell? ⟨w3.heap.size, 3, none⟩ = some (.int .i64 0) := new_cell w3 _ _ rfl
    have q2 : ∀ w', Chg (fun _ => False) w3 w' → Calls Try.prog 11 #[.slice ao n c] w' (fun e w'' => e = .returned (.tuple #[decV xs, .int .i64 (decE xs)]) ∧ Chg (fun _ => False) w3 w'') := fun w' h => (decode_any _ xs w' (HS.out.fr ((((hA.tr hC1).tr hC2).tr hC3).tr h)) (by rw [HM.out]; omega)).mono (fun e w'' hh => ⟨hh.1, h.tr hh.2⟩)
    rw [decV_noteP] at q2
    unfold ntV at q2
    obtain ⟨k2, a2, b2, n2, hz⟩ : ∃ k2 a2 b2 n2, noteP xs = ⟨k2, a2, b2, n2⟩ := ⟨_, _, _, _, rfl⟩
    have hok2 := noteP_ok xs
    rw [hz] at q2 hok2
    have p2 := fun w => encode_any k2 a2 b2 n2 hok2.2.2.2.2 w
    unfold noteV at p2
    have HZ := Lib.hid hz
    clear hz
    by_cases hd : decOk xs = true
    · obtain ⟨f1, f2, f3⟩ := dec_enc hd
      rw [HZ.out] at f1 f3
      rw [encN_mk] at f1
      simp only at f3
      rw [decE_ok hd] at q2
      rw [f1, f3] at p2
      clear f1 f3 f2 hd
      go_wp2_with fail
      refine Calls.mono (q2 _ ?hqb) ?_
      case hqb => first | exact (Chg.refl _ _).alloc _ | exact ((Chg.refl _ _).alloc _).drew
      clear q2
      rintro e w4 ⟨rfl, hC4⟩
      go_wp2_with fail
      refine (p2 _).mono ?_
      clear p2
      rintro e w5 ⟨v5, rfl, ho5, hC5⟩
      obtain ⟨ao5, L5, c5, rfl, _⟩ := owns_name ho5
      have hC45 := (hC4.alloc (.cells #[.int .i64 k2, .int .i64 a2, .int .i64 b2, .int .i64 n2] 23)).tr hC5
      have z0 : w5.cell? ⟨w4.heap.size, 0, none⟩ = some (.int .i64 k2) := hC5.cell (new_cell w4 _ _ rfl) id
      have z1 : w5.cell? ⟨w4.heap.size, 1, none⟩ = some (.int .i64 a2) := hC5.cell (new_cell w4 _ _ rfl) id
      have z2 : w5.cell? ⟨w4.heap.size, 2, none⟩ = some (.int .i64 b2) := hC5.cell (new_cell w4 _ _ rfl) id
      have z3 : w5.cell? ⟨w4.heap.size, 3, none⟩ = some (.int .i64 n2) := hC5.cell (new_cell w4 _ _ rfl) id
      obtain ⟨X, hX, hX2, _⟩ := str_name xs
      have j1 := conv_sl (Sl.of_owns ho5)
      have j2 := conv_sl (HS.out.fr ((((hA.tr hC1).tr hC2).tr hC3).tr hC45))
      rw [hX] at j1 j2
      have hE := (((hA.tr hC1).tr hC2).tr hC3).tr hC45
      clear hX hX2 ho5 hC45 hC5 hC4 hC3 hC2 hC1 hA
      go_wp2
      go_ret
      exact ⟨by simp, hE⟩
    · have hd2 : decOk xs = false := by simpa using hd
      have f0 := noteP_no hd2
      rw [HZ.out] at f0
      injection f0 with f0 f1 f2 f3
      subst f0 f1 f2 f3
      rw [decE_no hd2] at q2
      rw [show encE 0 0 0 0 = 90 by decide, show encL 0 0 0 0 = [] by decide] at p2
      clear hd hd2
      go_wp2_with fail
      refine Calls.mono (q2 _ ?hqbb) ?_
      case hqbb => first | exact (Chg.refl _ _).alloc _ | exact ((Chg.refl _ _).alloc _).drew
      clear q2
      rintro e w4 ⟨rfl, hC4⟩
      go_wp2_with fail
      refine (p2 _).mono ?_
      clear p2
      rintro e w5 ⟨v5, rfl, ho5, hC5⟩
      have hC45 := (hC4.alloc (.cells #[.int .i64 0, .int .i64 0, .int .i64 0, .int .i64 0] 23)).tr hC5
      have z0 : w5.cell? ⟨w4.heap.size, 0, none⟩ = some (.int .i64 0) := hC5.cell (new_cell w4 _ _ rfl) id
      have z1 : w5.cell? ⟨w4.heap.size, 1, none⟩ = some (.int .i64 0) := hC5.cell (new_cell w4 _ _ rfl) id
      have z2 : w5.cell? ⟨w4.heap.size, 2, none⟩ = some (.int .i64 0) := hC5.cell (new_cell w4 _ _ rfl) id
      have z3 : w5.cell? ⟨w4.heap.size, 3, none⟩ = some (.int .i64 0) := hC5.cell (new_cell w4 _ _ rfl) id
      have hE := (((hA.tr hC1).tr hC2).tr hC3).tr hC45
      clear ho5 hC45 hC5 hC4 hC3 hC2 hC1 hA
      go_wp2
      go_ret
      exact ⟨by simp, ((Chg.refl (fun _ => False) _).tr hE)⟩
theorem noteBack_walk (k a b n : Int) (vb : Value) (xs : List UInt8) (W : World) (hn : NoteOk k a b n) (hS : Sl W vb (xs.map B)) : Calls Try.prog 4 #[noteV k a b n, vb] W (True_ W) := by
  obtain ⟨ao, c, rfl, _⟩ := hS.form
  rw [List.length_map] at hS ⊢
  by_cases h1 : (100 : Int) < xs.length
  · exact back_big k a b n ao c _ W h1
  · exact back_main k a b n hn ao c _ xs W rfl hS h1
end Go.Proofs.Ytpiboaoifcajdaa
