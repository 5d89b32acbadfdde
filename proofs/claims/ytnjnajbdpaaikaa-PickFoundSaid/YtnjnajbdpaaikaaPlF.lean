/- pick: what is picked, walked. -/
import Derived.Test.YtnjnajbdpaaikaaPlE
namespace Go.Proofs.Ytnjnajbdpaaikaa
open Go.RowKit Go.Shelf

theorem shp_len {l : Int} {x : Ax} (h : axB x = true) : (shp l x).length ≤ 4 := by
  unfold shp
  cases hx : x.all with
  | true => simp
  | false =>
    unfold axB at h
    rw [hx, Bool.false_or] at h
    simpa using (shB_iff.1 (chkB_iff.1 h).1).1
theorem ixS_len : ∀ {s : List Int} {L : List Ax}, (∀ x ∈ L, axB x = true) → (ixS s L).length ≤ 4 * L.length
  | [], L, _ => by cases L <;> simp [ixS]
  | m :: s, [], _ => by simp [ixS]
  | m :: s, x :: r, h => by
    rw [ixS, List.length_append, List.length_cons]
    have h1 := shp_len (l := m) (h x (by simp))
    have h2 := ixS_len (s := s) (L := r) (fun y hy => h y (List.mem_cons_of_mem _ hy))
    omega
theorem any_succ {α : Type} {p : α → Bool} {L : List α} {j : Nat} (h : j < L.length) : (L.take (j + 1)).any p = ((L.take j).any p || p L[j]) := by
  rw [List.take_succ_eq_append_getElem h, List.any_append]
  simp
theorem pchg_alloc {S : Nat → Prop} {a w : World} {o : Obj} (h : Chg S a w) : Chg S a (w.alloc o) := h.alloc o
set_option maxRecDepth 100000 in
set_option maxHeartbeats 4000000 in
theorem picked_any (u v : Value) (s : List Int) (L : List Ax) (w : World) (hS : Ls w u s) (hL : Axs w v L) (hs4 : s.length ≤ 4) (hax : L.length = s.length → ∀ x ∈ L, axB x = true) (hel : ∀ x ∈ L, x.a.e.length ≤ 1000000) (hLl : L.length ≤ 1000000) : Calls Try.prog 66 #[u, v] w (GavePk w s L) := by
  obtain ⟨sa, cs, rfl, _⟩ := hS.form
  obtain ⟨la, cl, rfl, _⟩ := hL.form
  by_cases hlen : L.length = s.length
  · obtain ⟨i0, hi, hz0, hz1, hz2⟩ := info_parts info_int
    obtain ⟨i1, hj, hy0, hy1, hy2⟩ := info_parts info_axis
    have b0 : ((L.length : Int) != (s.length : Int)) = false := by rw [bne_eq_false_iff_eq]; omega
    obtain ⟨n, hn⟩ : ∃ n, L.length = n := ⟨_, rfl⟩
    have HAX := Lib.hid (hax hlen)
    have HELS := Lib.hid hel
    have HS := Lib.hid hS
    have HL := Lib.hid hL
    have HLN := Lib.hid (show s.length = n ∧ L.length = n ∧ n ≤ 4 from ⟨by omega, hn, by omega⟩)
    have HE := Lib.hid (show pkE s L = if L.any isCh then 5 else 0 from by unfold pkE; rw [if_pos hlen])
    rw [hn] at b0 ⊢
    have hI0 : PkI w w s L 0 (.slice none 0 0) (.slice none 0 0) [] [] := ⟨by cases L <;> simp [pxL], by cases L <;> simp [ixS], OwnP.nil _ _, Own.nil _ _ _, rfl, Chg.refl _ _⟩
    have HI0 := Lib.hid hI0
    clear hax hel hS hL hlen hn hLl hs4 hI0
    go_enter Try.func66, Try.ntmps66
    go_wp2
    go_loopw [4, 5, 16] (fun v4 v5 i wr => ∃ j : Nat, j ≤ n ∧ i = .int .i64 j ∧ (∃ R T, PkI w wr s L j v4 v5 R T)) (fun _ _ i _ => n - (intOf i).toNat)
    case atStart => exact ⟨0, Nat.zero_le _, rfl, _, _, HI0.out⟩
    case round =>
      obtain ⟨j, hjn, rfl, R, T, hP⟩ := hrel
      clear HI0
      by_cases hlt : j < n
      · have hjs : j < s.length := by have := HLN.out; omega
        have hjL : j < L.length := by have := HLN.out; omega
        obtain ⟨sb, so, sc, e1, hsc⟩ := (HS.out).at hjs
        injection e1 with e1 e2 e3
        subst e1
        clear e2 e3
        obtain ⟨lb, lo, lc, e1, vs, ve, ⟨k0, k1, k2, k3⟩, hxs, hxe⟩ := HL.out.cells j hjL
        rw [HLN.out.2.1] at e1
        injection e1 with e1 e2 e3
        subst e1
        clear e2 e3
        have hxB := HAX.out L[j] (List.getElem_mem hjL)
        have hel := HELS.out L[j] (List.getElem_mem hjL)
        have HRS := Lib.hid (show s.take (j + 1) = s.take j ++ [s[j]] ∧ L.take (j + 1) = L.take j ++ [L[j]] from ⟨List.take_succ_eq_append_getElem hjs, List.take_succ_eq_append_getElem hjL⟩)
        have HTK := Lib.hid (show (L.take j).length = (s.take j).length by rw [List.length_take, List.length_take]; omega)
        have hany := any_succ (p := isCh) hjL
        rw [hP.ch, Bool.false_or] at hany
        obtain ⟨l, hl⟩ : ∃ l, s[j] = l := ⟨_, rfl⟩
        obtain ⟨x, hx⟩ : ∃ x, L[j] = x := ⟨_, rfl⟩
        have hxm : x ∈ L := by rw [← hx]; exact List.getElem_mem hjL
        rw [hl] at hsc HRS
        rw [hx] at k0 k1 hxs hxe hxB hel HRS hany
        obtain ⟨xsa, xsc, rfl, _⟩ := hxs.form
        obtain ⟨ea, ce, rfl, _⟩ := hxe.form
        have HSBL := Lib.hid (show sb < w.heap.size from cell_lt hsc)
        have HXE := Lib.hid hxe
        have HXS := Lib.hid hxs
        have HEL := Lib.hid hel
        have HXB := Lib.hid hxB
        have HSC := Lib.hid hsc
        have HJN := Lib.hid hlt
        have HJ4 := Lib.hid (show j < 4 by have := HLN.out; omega)
        have hRl := hP.len (by have := HLN.out; omega) (by have := HLN.out; omega)
        have hTl : T.length ≤ 16 := by
          rw [hP.t]
          have h1 := ixS_len (s := s.take j) (L := L.take j) (fun y hy => HAX.out y (List.mem_of_mem_take hy))
          rw [List.length_take] at h1
          have := HLN.out
          omega
        have HPP := Lib.hid hP
        have HRL := Lib.hid hRl
        have HTL := Lib.hid hTl
        obtain ⟨a4, l4, c4, rfl, hl4⟩ := owns_name hP.o4.row
        obtain rfl : j = l4 := by rw [hl4.out, hRl]
        obtain ⟨a5, l5, c5, rfl, hl5⟩ := owns_name (show World.ownsRow _ _ _ _ _ _ _ from hP.o5)
        obtain ⟨lT, hlT⟩ : ∃ lT, T.length = lT := ⟨_, rfl⟩
        obtain rfl : l5 = lT := by rw [hl5.out, hlT]
        have HLT := Lib.hid hlT
        have HO4 := Lib.hid hP.o4
        have HV4 := Lib.hid (show ∀ q, (Value.slice a4 j c4).ownBlock = some q → q < wr.heap.size from fun q hq => (HO4.out.lt q hq).2)
        have HV5 := Lib.hid (show ∀ q, (Value.slice a5 l5 c5).ownBlock = some q → w.heap.size ≤ q ∧ q < wr.heap.size from fun q hq => HPP.out.o5.lt q hq)
        have hcw := hP.c
        have HCW := Lib.hid hcw
        replace k0 := hcw.cell k0 id
        replace k1 := hcw.cell k1 id
        replace k2 := hcw.cell k2 id
        replace k3 := hcw.cell k3 id
        replace hsc := hcw.cell hsc id
        have hjn1 : (j : Int) < (n : Int) := by omega
        have hjs1 : (j : Int) < (s.length : Int) := by omega
        have hj0 : (0 : Int) ≤ (j : Int) := by omega
        have hkw : IntKind.i64.wrap ((j : Int) + 1) = (j : Int) + 1 := IntWalk.i64_in _ (by have := HLN.out; omega)
        have hsbw : sb < wr.heap.size := cell_lt hsc
        have HANY := Lib.hid hany
        clear hP hl4 hl5 hlT hRl hTl hxs hxe hxB hel hany hl hx hjn hlt hjs hjL hcw
        cases ha : x.all with
        | true =>
          rw [ha] at k0
          have HA := Lib.hid ha
          clear ha
          have hCa := (Chg.refl (fun _ => False) wr).alloc (.cells #[.bool true, .int .i64 x.a.k, .slice xsa x.a.s.length xsc, .slice ea x.a.e.length ce] 39)
          have hCb := (Chg.refl (fun _ => False) (wr.alloc (.cells #[.bool true, .int .i64 x.a.k, .slice xsa x.a.s.length xsc, .slice ea x.a.e.length ce] 39))).alloc (.cells #[.int .i64 l] 3)
          have bx0 := hCb.cell (new_cell wr #[.bool true, .int .i64 x.a.k, .slice xsa x.a.s.length xsc, .slice ea x.a.e.length ce] 39 (i := 0) rfl) id
          have bx3 := hCb.cell (new_cell wr #[.bool true, .int .i64 x.a.k, .slice xsa x.a.s.length xsc, .slice ea x.a.e.length ce] 39 (i := 3) rfl) id
          have hnew := (own_lit (wr.alloc (.cells #[.bool true, .int .i64 x.a.k, .slice xsa x.a.s.length xsc, .slice ea x.a.e.length ce] 39)) 3 [l] 1 rfl #[.int .i64 l] rfl (by simp)).ls
          rw [World.size_alloc] at hnew
          have HNEW := Lib.hid hnew
          have HBX := Lib.hid (And.intro bx0 bx3)
          have HCB := Lib.hid (hCa.tr hCb)
          have HO5 := Lib.hid ((HPP.out.o5.fr hCa).fr hCb)
          clear hnew bx0 bx3 hCa hCb
          go_wp2_with (at_builtin; go_loud (refine wpList_append_own_any rfl (.tmp 29) (.tmp 34) 22 rfl w.heap.size 3 i0 (.int .i64 0) 1 8 Try.underlying22 hi hz0 hz1 hz2 rfl (by decide) (.slice a5 l5 c5) l5 (T.map I) rfl (by have h := HO5.out; unfold Own at h; rw [HLT.out] at h; exact h) (some ⟨wr.heap.size + 1, 0, none⟩) 1 1 [.int .i64 l] rfl rfl HNEW.out.src (by simp [Value.oneCell']) (by have h1 := HLT.out; have h2 := HTL.out; unfold maxLen; omega) (by have h1 := HLT.out; have h2 := HTL.out; omega) (by have := HCW.out.size; simp; omega) ?_; intro v9 w9 hown9 hg9 _ hO9))
          clear k0 k1 k2 k3
          have X9a : Chg (fun q => (Value.slice a5 l5 c5).ownBlock = some q) _ w9 := (Chg.refl _ _).grown hg9 (fun k e => .inl e)
          obtain ⟨n5, n4, hc9, hX9⟩ := HPP.out.more5 (X := [l]) HCB.out hg9 hown9 (by rw [HLT.out]; rfl)
          have bx0 := X9a.cell HBX.out.1 (fun e => by have := (HV5.out _ e).2; simp only at this; omega)
          have bx3 := X9a.cell HBX.out.2 (fun e => by have := (HV5.out _ e).2; simp only at this; omega)
          obtain ⟨a9, l9, c9, rfl, hl9⟩ := owns_name hown9
          clear hown9 hg9 hO9 X9a hl9 hX9 hsc
          -- w9: the world ahead of the drawn region; o4: OwnP w9 .., o5n: Own w9 .. v5' T'
          have HSH9 := ((hc9.cell HSC.out id) : w9.cell? ⟨sb, so + j, none⟩ = some (.int .i64 l))
          have HKP := Lib.hid (show ∀ w', Chg (fun q => (Value.slice a4 j c4).ownBlock = some q) w9 w' → (w'.cell? ⟨sb, so + j, none⟩ = some (.int .i64 l) ∧ w'.cell? ⟨wr.heap.size, 0, none⟩ = some (.bool true) ∧ w'.cell? ⟨wr.heap.size, 3, none⟩ = some (.slice ea x.a.e.length ce)) from fun w' h =>
            ⟨h.cell HSH9 (fun e => by have h1 : w.heap.size ≤ sb := (HO4.out.lt _ e).1; have h2 := HSBL.out; omega), h.cell bx0 (fun e => by have h1 : wr.heap.size < wr.heap.size := HV4.out _ e; omega), h.cell bx3 (fun e => by have h1 : wr.heap.size < wr.heap.size := HV4.out _ e; omega)⟩)
          have HCLN := Lib.hid (show ∀ w', Chg (fun _ => False) w9 w' → Calls Try.prog 47 #[.slice ea x.a.e.length ce] w' (GaveL 2 w' x.a.e) from fun w' h => cloneL_any _ x.a.e w' (HXE.out.fr (hc9.tr h)) HEL.out)
          have HW9 := Lib.hid hc9
          have HO49 := Lib.hid n4
          have HO59 := Lib.hid n5
          have HROW := Lib.hid (show ∀ w', Chg (fun _ => False) w9 w' → w'.ownsRow w.heap.size 102 3 (.slice a4 j c4) j (flatP R) from fun w' h => by
            have h2 := (HO49.out.fr h).row
            rw [HRL.out] at h2
            exact h2)
          clear bx0 bx3 HSH9
          go_upto_region 11 with (fail)
          go_region_held3 (fun w' => w'.cell? ⟨sb, so + j, none⟩ = some (.int .i64 l) ∧ w'.cell? ⟨wr.heap.size, 0, none⟩ = some (.bool true) ∧ w'.cell? ⟨wr.heap.size, 3, none⟩ = some (.slice ea x.a.e.length ce))
            ((refine HKP.out _ ?_; first | (with_reducible exact hX8) | (repeat (first | (with_reducible exact Chg.refl _ _) | (with_reducible refine pchg_drew ?_) | (with_reducible refine pchg_alloc ?_) | (with_reducible refine pchg_tr ?_ hC3)))))
            (first
            | (go_at_call 47; (with_reducible refine (HCLN.out _ ((Chg.refl _ _).drew)).mono ?_); rintro e9 w3 ⟨v3, rfl, ho3, hC3⟩; (have hc3 : Chg (fun _ => False) w9 w3 := ((Chg.refl _ _).drew).tr hC3); (obtain ⟨a3, c3, rfl⟩ := own_name ho3))
            | (refine step_append_own (by rfl) (.tmp 41) (.tmp 53) 97 (by rfl) w.heap.size 102 i1 (.agg #[.int .i64 0, .bool false, .slice none 0 0]) 3 40 Try.underlying97 hj hy0 hy1 hy2 rfl (by decide) (.slice a4 j c4) j (flatP R) (by simp [Act.eval]) (HROW.out _ (hc3.alloc _)) (some ⟨w3.heap.size, 0, none⟩) 1 1 [.int .i64 l, .bool true, .slice a3 x.a.e.length c3] (by simp [Act.eval]) rfl (fun i u hu => ⟨_, rfl, by rw [Addr.add_lit, Nat.zero_add]; exact new_cell w3 _ _ (by simpa using hu)⟩) (by simp [Value.oneCell']) (by have := HJ4.out; unfold maxLen; omega) (by have := HJ4.out; omega) (by have h1 := HW9.out.size; have h2 := hc3.size; simp; omega) ?_; intro v8 w8 hown8 hg8 _ hO8; (obtain ⟨n4, n5, hc8, hX8⟩ := more4 (p := ⟨l, true, x.a.e⟩) HO49.out HO59.out HW9.out (hc3.alloc _) ((ho3.mono (Nat.le_trans HW9.out.size (Nat.le_refl _))).fr ((Chg.refl _ w3).alloc _)) hg8 hown8 (by rw [HRL.out])); (obtain ⟨a8, l8, c8, rfl, hl8⟩ := owns_name hown8))
            | fail)
          all_goals
            rename_i hHd
            clear hHd
            have HPI := Lib.hid (show PkI w w8 s L (j + 1) (.slice a8 l8 c8) (.slice a9 l9 c9) (R ++ [(⟨l, true, x.a.e⟩, .slice a3 x.a.e.length c3)]) (T ++ [l]) from ⟨by rw [HRS.out.1, HRS.out.2, pxL_snoc _ _ HTK.out, List.map_append, HPP.out.r, HA.out]; rfl, by rw [HRS.out.1, HRS.out.2, ixS_snoc _ _ HTK.out, ← HPP.out.t]; unfold shp; rw [HA.out]; rfl, n4, n5, by rw [HANY.out]; unfold isCh; rw [HA.out]; rfl, hc8⟩)
            clear hown8 hg8 hO8 n4 n5 hc8 hX8 hC3 hc3 ho3 hl8
            go_wp2
            go_roundw
            case rel => exact ⟨j + 1, HJN.out, by go_num, ⟨_, _, HPI.out⟩⟩
            case measure => exact fit_meas j n HJN.out
        | false =>
          rw [ha] at k0
          have HA := Lib.hid ha
          clear ha
          by_cases hk2 : x.a.k = 2
          · have HR := Lib.hid (show pkE s L = 5 from by rw [HE.out, if_pos (List.any_eq_true.2 ⟨x, hxm, by unfold isCh; rw [HA.out, hk2]; rfl⟩)])
            have d1 : (x.a.k == 2) = true := beq_iff_eq.2 hk2
            clear hk2 hxm
            go_wp2
            go_ret3
            exact pk_no HR.out (by decide) (HCW.out.alloc _)
          · have d1 : (x.a.k == 2) = false := beq_eq_false_iff_ne.2 hk2
            have HK2 := Lib.hid d1
            have hCa := (Chg.refl (fun _ => False) wr).alloc (.cells #[.bool false, .int .i64 x.a.k, .slice xsa x.a.s.length xsc, .slice ea x.a.e.length ce] 39)
            have bx0 := new_cell wr #[.bool false, .int .i64 x.a.k, .slice xsa x.a.s.length xsc, .slice ea x.a.e.length ce] 39 (i := 0) rfl
            have bx3 := new_cell wr #[.bool false, .int .i64 x.a.k, .slice xsa x.a.s.length xsc, .slice ea x.a.e.length ce] 39 (i := 3) rfl
            have HSRC := Lib.hid (HXS.out.fr (HCW.out.tr hCa))
            have HBX := Lib.hid (And.intro bx0 bx3)
            have HCB := Lib.hid hCa
            have HO5 := Lib.hid (HPP.out.o5.fr hCa)
            have HXL := Lib.hid (show x.a.s.length ≤ 4 from by
              have h := HXB.out
              unfold axB at h
              rw [HA.out, Bool.false_or] at h
              exact (shB_iff.1 (chkB_iff.1 h).1).1)
            clear bx0 bx3 hCa hk2
            go_wp2_with (at_builtin; refine wpList_append_own_any rfl (.tmp 21) (.tmp 24) 22 rfl w.heap.size 3 i0 (.int .i64 0) 1 8 Try.underlying22 hi hz0 hz1 hz2 rfl (by decide) (.slice a5 l5 c5) l5 (T.map I) rfl (by have h := HO5.out; unfold Own at h; rw [HLT.out] at h; exact h) xsa x.a.s.length xsc (x.a.s.map I) rfl (by simp) HSRC.out.src (I_one _) (by have h1 := HLT.out; have h2 := HTL.out; have h3 := HXL.out; unfold maxLen; omega) (by have h1 := HLT.out; have h2 := HTL.out; have h3 := HXL.out; omega) (by have := HCW.out.size; simp; omega) ?_; intro v9 w9 hown9 hg9 _ hO9)
            clear k0 k1 k2 k3 d1
            have X9a : Chg (fun q => (Value.slice a5 l5 c5).ownBlock = some q) _ w9 := (Chg.refl _ _).grown hg9 (fun k e => .inl e)
            obtain ⟨n5, n4, hc9, hX9⟩ := HPP.out.more5 (X := x.a.s) HCB.out hg9 hown9 (by rw [HLT.out])
            have bx0 := X9a.cell HBX.out.1 (fun e => by have := (HV5.out _ e).2; simp only at this; omega)
            have bx3 := X9a.cell HBX.out.2 (fun e => by have := (HV5.out _ e).2; simp only at this; omega)
            obtain ⟨a9, l9, c9, rfl, hl9⟩ := owns_name hown9
            clear hown9 hg9 hO9 X9a hl9 hX9 hsc
            -- w9: the world ahead of the drawn region; o4: OwnP w9 .., o5n: Own w9 .. v5' T'
            have HSH9 := ((hc9.cell HSC.out id) : w9.cell? ⟨sb, so + j, none⟩ = some (.int .i64 l))
            have HKP := Lib.hid (show ∀ w', Chg (fun q => (Value.slice a4 j c4).ownBlock = some q) w9 w' → (w'.cell? ⟨sb, so + j, none⟩ = some (.int .i64 l) ∧ w'.cell? ⟨wr.heap.size, 0, none⟩ = some (.bool false) ∧ w'.cell? ⟨wr.heap.size, 3, none⟩ = some (.slice ea x.a.e.length ce)) from fun w' h =>
              ⟨h.cell HSH9 (fun e => by have h1 : w.heap.size ≤ sb := (HO4.out.lt _ e).1; have h2 := HSBL.out; omega), h.cell bx0 (fun e => by have h1 : wr.heap.size < wr.heap.size := HV4.out _ e; omega), h.cell bx3 (fun e => by have h1 : wr.heap.size < wr.heap.size := HV4.out _ e; omega)⟩)
            have HCLN := Lib.hid (show ∀ w', Chg (fun _ => False) w9 w' → Calls Try.prog 47 #[.slice ea x.a.e.length ce] w' (GaveL 2 w' x.a.e) from fun w' h => cloneL_any _ x.a.e w' (HXE.out.fr (hc9.tr h)) HEL.out)
            have HW9 := Lib.hid hc9
            have HO49 := Lib.hid n4
            have HO59 := Lib.hid n5
            have HROW := Lib.hid (show ∀ w', Chg (fun _ => False) w9 w' → w'.ownsRow w.heap.size 102 3 (.slice a4 j c4) j (flatP R) from fun w' h => by
              have h2 := (HO49.out.fr h).row
              rw [HRL.out] at h2
              exact h2)
            clear bx0 bx3 HSH9
            go_upto_region 11 with (fail)
            go_region_held3 (fun w' => w'.cell? ⟨sb, so + j, none⟩ = some (.int .i64 l) ∧ w'.cell? ⟨wr.heap.size, 0, none⟩ = some (.bool false) ∧ w'.cell? ⟨wr.heap.size, 3, none⟩ = some (.slice ea x.a.e.length ce))
              ((refine HKP.out _ ?_; first | (with_reducible exact hX8) | (repeat (first | (with_reducible exact Chg.refl _ _) | (with_reducible refine pchg_drew ?_) | (with_reducible refine pchg_alloc ?_) | (with_reducible refine pchg_tr ?_ hC3)))))
              (first
              | (go_at_call 47; (with_reducible refine (HCLN.out _ ((Chg.refl _ _).drew)).mono ?_); rintro e9 w3 ⟨v3, rfl, ho3, hC3⟩; (have hc3 : Chg (fun _ => False) w9 w3 := ((Chg.refl _ _).drew).tr hC3); (obtain ⟨a3, c3, rfl⟩ := own_name ho3))
              | (refine step_append_own (by rfl) (.tmp 41) (.tmp 53) 97 (by rfl) w.heap.size 102 i1 (.agg #[.int .i64 0, .bool false, .slice none 0 0]) 3 40 Try.underlying97 hj hy0 hy1 hy2 rfl (by decide) (.slice a4 j c4) j (flatP R) (by simp [Act.eval]) (HROW.out _ (hc3.alloc _)) (some ⟨w3.heap.size, 0, none⟩) 1 1 [.int .i64 l, .bool false, .slice a3 x.a.e.length c3] (by simp [Act.eval]) rfl (fun i u hu => ⟨_, rfl, by rw [Addr.add_lit, Nat.zero_add]; exact new_cell w3 _ _ (by simpa using hu)⟩) (by simp [Value.oneCell']) (by have := HJ4.out; unfold maxLen; omega) (by have := HJ4.out; omega) (by have h1 := HW9.out.size; have h2 := hc3.size; simp; omega) ?_; intro v8 w8 hown8 hg8 _ hO8; (obtain ⟨n4, n5, hc8, hX8⟩ := more4 (p := ⟨l, false, x.a.e⟩) HO49.out HO59.out HW9.out (hc3.alloc _) ((ho3.mono (Nat.le_trans HW9.out.size (Nat.le_refl _))).fr ((Chg.refl _ w3).alloc _)) hg8 hown8 (by rw [HRL.out])); (obtain ⟨a8, l8, c8, rfl, hl8⟩ := owns_name hown8))
              | fail)
            all_goals
              rename_i hHd
              clear hHd
              have HPI := Lib.hid (show PkI w w8 s L (j + 1) (.slice a8 l8 c8) (.slice a9 l9 c9) (R ++ [(⟨l, false, x.a.e⟩, .slice a3 x.a.e.length c3)]) (T ++ x.a.s) from ⟨by rw [HRS.out.1, HRS.out.2, pxL_snoc _ _ HTK.out, List.map_append, HPP.out.r, HA.out]; rfl, by rw [HRS.out.1, HRS.out.2, ixS_snoc _ _ HTK.out, ← HPP.out.t]; unfold shp; rw [HA.out]; rfl, n4, n5, by rw [HANY.out]; unfold isCh; rw [HA.out, decide_eq_false (fun e => by have h := HK2.out; rw [e] at h; cases h)]; rfl, hc8⟩)
              clear hown8 hg8 hO8 n4 n5 hc8 hX8 hC3 hc3 ho3 hl8
              go_wp2
              go_roundw
              case rel => exact ⟨j + 1, HJN.out, by go_num, ⟨_, _, HPI.out⟩⟩
              case measure => exact fit_meas j n HJN.out
      · obtain rfl : j = n := by omega
        have hP2 := hP
        obtain ⟨hr, ht, o4, o5, hch, hc⟩ := hP2
        have h1 := HLN.out
        rw [List.take_of_length_le (by omega), List.take_of_length_le (by omega)] at hr ht
        rw [List.take_of_length_le (by omega)] at hch
        have HR := Lib.hid (show pkE s L = 0 from by rw [HE.out, hch]; rfl)
        rw [ht] at o5
        have HF := Lib.hid (And.intro hr (And.intro o4 (And.intro o5 hc)))
        obtain ⟨a4, l4, c4, rfl, hl4⟩ := owns_name o4.row
        obtain ⟨a5, l5, c5, rfl, hl5⟩ := owns_name (show World.ownsRow _ _ _ _ _ _ _ from o5)
        clear hP hr ht o4 o5 hch hc h1 hl4 hl5
        go_wp2
        go_ret3
        exact ⟨_, _, by rw [HR.out]; rfl, fun _ => ⟨⟨R, HF.out.1, HF.out.2.1⟩, HF.out.2.2.1⟩, fun h => absurd HR.out h, HF.out.2.2.2⟩
  · have b0 : ((L.length : Int) != (s.length : Int)) = true := by rw [bne_iff_ne]; omega
    have HE := Lib.hid (show pkE s L = 3 from by unfold pkE; rw [if_neg hlen])
    clear hS hL hax hel hlen
    go_enter Try.func66, Try.ntmps66
    go_wp2
    go_ret3
    exact pk_no HE.out (by decide) (Chg.refl _ _)
end Go.Proofs.Ytnjnajbdpaaikaa
