/- OctetReads' walk. -/
import Derived.Test.YtjinbjbcfmhnmaaLawW
namespace Go.Proofs.Ytjinbjbcfmhnmaa
open Go.RowKit

/-- The round's state: a reader that the call has made; nothing that lay in W has turned. -/
structure RInv (W w : World) (rb : Nat) (v : Value) (xs : List UInt8) (pos : Nat) : Prop where
  rdr : Rdr w rb v xs pos
  old : Chg (fun _ => False) W w
  hb : W.heap.size ≤ rb
  hv : ∀ k, v.ownBlock = some k → W.heap.size ≤ k

theorem RInv.fr {W w w' : World} {rb : Nat} {v : Value} {xs : List UInt8} {pos : Nat} (h : RInv W w rb v xs pos) (hC : Chg (fun _ => False) w w') : RInv W w' rb v xs pos :=
  ⟨h.rdr.fr hC, h.old.tr hC, h.hb, h.hv⟩
theorem RInv.read {W w w' : World} {rb : Nat} {v : Value} {xs : List UInt8} {pos pos' : Nat} (h : RInv W w rb v xs pos) (hR : Rdr w' rb v xs pos') (hC : Chg (fun j => j = rb) w w') : RInv W w' rb v xs pos' :=
  ⟨hR, h.old.trans hC (fun _ _ h => h) (fun i hi e => by have := h.hb; omega), h.hb, h.hv⟩
theorem RInv.other {W w w' : World} {rb : Nat} {v u : Value} {xs : List UInt8} {pos : Nat} (h : RInv W w rb v xs pos) (hC : Chg (fun q => u.ownBlock = some q) w w') (h1 : u.ownBlock ≠ some rb) (h2 : ∀ k, v.ownBlock = some k → u.ownBlock ≠ some k) (h3 : ∀ k, u.ownBlock = some k → W.heap.size ≤ k) : RInv W w' rb v xs pos :=
  ⟨h.rdr.chg hC h1 h2, h.old.trans hC (fun _ _ h => h) (fun i hi e => by have := h3 i e; omega), h.hb, h.hv⟩

theorem wrapEq (x : Int) : IntKind.i64.wrap x = wrap64 x := by rw [IntKind.wrap_i64, wrap64]

theorem row_of_owns {w : World} {base : Nat} {e : TypeId} {ao : Option Addr} {L c n : Nat} {xs : List UInt8} (h : w.ownsRow base e 1 (.slice ao L c) n (xs.map B)) (hL : L = n) :
    ∀ q, q < L → ∃ (g : Nat) (m : Int), ao = some ⟨g, 0, none⟩ ∧ w.cell? ⟨g, q, none⟩ = some (.int .u8 m) ∧ w.frozen? ⟨g, q, none⟩ = false := by
  intro q hq
  obtain ⟨g, c', u, e1, _, e3, e4, e5⟩ := owns_cells h q (by omega)
  injection e1 with e1 _ _
  rw [List.getElem?_map] at e5
  cases hx : xs[q]? with
  | none => rw [hx] at e5; cases e5
  | some y => rw [hx] at e5; exact ⟨g, _, e1, by rw [e3, ← Option.some.inj e5]; rfl, e4⟩

set_option maxRecDepth 100000 in
set_option maxHeartbeats 2000000 in
theorem octetReads_walk (vb : Value) (xs : List UInt8) (v0 : Value) (l : List OpD) (W : World) (hS : Sl W vb (xs.map B)) (hO : Ops W v0 l) : Calls Try.prog 5 #[vb, v0] W (True_ W) := by
  obtain ⟨i0, hi, hz0, hz1, hz2⟩ := info_parts Try.info5
  have hG := great_any v0 l W hO
  obtain ⟨ao, c, rfl, g1, g2⟩ := hO.form
  obtain ⟨aob, cb, hvb, g3, g4, _⟩ := hS.form
  rw [List.length_map] at g3 hvb
  unfold maxLen at g2 g4
  have HO := Lib.hid hO
  have HS := Lib.hid hS
  subst hvb
  clear hO hS
  by_cases hgr : isGreat l = true
  · rw [hgr] at hG
    clear hgr
    go_enter Try.func5, Try.ntmps5
    go_wp2_with (go_at_call 12; refine hG.mono ?_; rintro e w' ⟨rfl, rfl⟩)
    go_ret
    exact ⟨rfl, Chg.refl _ _⟩
  · have hgr' : isGreat l = false := by simpa using hgr
    rw [hgr'] at hG
    by_cases hbig : 10000 < xs.length
    · clear hgr hgr'
      go_enter Try.func5, Try.ntmps5
      go_wp2_with (go_at_call 12; refine hG.mono ?_; rintro e w' ⟨rfl, rfl⟩)
      go_ret
      exact ⟨rfl, Chg.refl _ _⟩
    · have hl100 : l.length ≤ 100 := by
        unfold isGreat at hgr'; simp at hgr'; omega
      clear hgr hgr'
      go_enter Try.func5, Try.ntmps5
      go_wp2_with (first | (go_at_call 12; refine hG.mono ?_; rintro e w' ⟨rfl, rfl⟩) | (refine wpList_append_own_any rfl (.tmp 43) (.tmp 44) 24 rfl W.heap.size 5 i0 (.int .u8 0) 1 1 Try.underlying24 hi hz0 hz1 hz2 rfl (by decide) (.slice (some ⟨W.heap.size, 0, none⟩) 0 0) 0 [] rfl (World.ownsRow_lit W #[] 0 (Nat.le_refl _) (Nat.zero_le _) rfl) aob xs.length cb (xs.map B) rfl (by simp) (HS.out.fr ((Chg.refl _ _).alloc _)).src (oneCell_B _) (by unfold maxLen; omega) (by omega) (by simp) ?_; intro vo w1 hown hg _ _; rw [Nat.zero_add, List.nil_append] at hown; have hC1 : Chg (fun _ => False) W w1 := ((Chg.refl _ W).alloc _).grown hg (fun k e => .inr (by simp [Value.ownBlock] at e; omega)); obtain ⟨aoo, Lo, co, rfl, hLo⟩ := owns_name hown; have HOwn := Lib.hid hown; clear hown))
      have hrd := read_any _ xs w1 (Sl.of_owns HOwn.out) (by omega)
      refine hrd.mono ?_
      clear hrd
      rintro e w2 ⟨rb, v, rfl, hb1, hv1, hR0, hC2⟩
      have hCW := hC1.tr hC2
      have hrow := row_of_owns (hC2.owns HOwn.out (fun _ _ => id)) hLo.out
      have HROW := Lib.hid hrow
      have hLo10 : Lo ≤ 10000 := by rw [hLo.out]; omega
      clear hrow
      go_wp2_with fail
      go_loopw [50] (fun i wz => ∃ j : Nat, j ≤ Lo ∧ i = .int .i64 j ∧ Chg (fun q => (Value.slice aoo Lo co).ownBlock = some q) w2 wz ∧ (∀ q, q < Lo → ∃ (g : Nat) (m : Int), aoo = some ⟨g, 0, none⟩ ∧ wz.cell? ⟨g, q, none⟩ = some (.int .u8 m) ∧ wz.frozen? ⟨g, q, none⟩ = false))
        (fun i _ => Lo - (intOf i).toNat)
      case atStart => exact ⟨0, Nat.zero_le _, rfl, Chg.refl _ _, HROW.out⟩
      case round =>
        obtain ⟨j, hj, rfl, hCz, hcz⟩ := hrel
        by_cases hjl : j < Lo
        · obtain ⟨g, m, rfl, hc, hf⟩ := hcz j hjl
          have HZ := Lib.hid hcz
          clear hcz
          go_wp2
          go_roundw
          case rel =>
            refine ⟨j + 1, by omega, by go_num, hCz.setCell (p := ⟨g, j, none⟩) (.inl rfl) _, fun q hq => ?_⟩
            by_cases hqj : q = j
            · subst hqj
              exact ⟨g, _, rfl, World.cell?_setCell_same' _ _ _ (by rw [hc]; rfl), by rw [World.frozen?_setCell]; exact hf⟩
            · obtain ⟨g2, m2, e2, c2, f2⟩ := HZ.out q hq
              injection e2 with e2
              injection e2 with e2 _
              subst e2
              exact ⟨g, m2, rfl, by rw [World.cell?_setCell_other _ _ _ _ (by first | (simp; done) | (simp; omega))]; exact c2, by rw [World.frozen?_setCell]; exact f2⟩
          case measure => first | (simp [intOf]; done) | (simp [intOf]; omega)
        · obtain rfl : j = Lo := by omega
          have hI0 : RInv W wr rb v xs 0 := RInv.other (u := .slice aoo j co) ⟨hR0, hCW, Nat.le_trans hC1.size hb1, fun k hk => Nat.le_trans hC1.size (hv1 k hk)⟩ hCz
            (fun e => by have := (HOwn.out.lt _ e).2; omega) (fun k hk e => by have := (HOwn.out.lt _ e).2; have := hv1 k hk; omega) (fun k e => (HOwn.out.lt _ e).1)
          have HI0 := Lib.hid hI0
          clear hcz hI0 HROW hR0 hCW hCz
          obtain ⟨wp, hwp⟩ : ∃ wp : World, wp = wr := ⟨_, rfl⟩
          subst hwp
          go_wp2_with fail
          go_loopw [8, 62] (fun a i wr => ∃ (k pos : Nat), k ≤ l.length ∧ i = .int .i64 k ∧ a = .int .i64 pos ∧ RInv W wr rb v xs pos) (fun _ i _ => l.length - (intOf i).toNat)
          case atStart => exact ⟨0, 0, Nat.zero_le _, rfl, rfl, HI0.out⟩
          case round =>
            obtain ⟨k, pos, hk, rfl, rfl, hI⟩ := hrel
            have HI := Lib.hid hI
            clear hI
            by_cases hlt : k < l.length
            · obtain ⟨b, o, c', e1, hx⟩ := HO.out.cells k hlt
              injection e1 with e1 e2 e3
              subst e1
              have hx := hx.chg HI.out.old id
              have hok := HO.out.ok _ (List.getElem_mem hlt)
              obtain ⟨x, hxx⟩ : ∃ x, x = l[k] := ⟨_, rfl⟩
              rw [← hxx] at hx hok
              have h0 := hx.c0
              have h1 := hx.c1
              have h2 := hx.c2
              have h3 := hx.c3
              obtain ⟨kind, size, n, s⟩ := x
              dsimp only at h0 h1 h2 h3
              clear hxx hx e2 e3 hok
              have hA : Chg (fun _ => False) wr (wr.alloc (.cells #[.int .i64 kind, .int .i64 size, .int .u64 n, .string s] 34)) := (Chg.refl _ wr).alloc _
              have HIa := HI.out.fr hA
              have hneS : ¬ wr.heap.size = rb := fun e => by have := cell_lt HI.out.rdr.c0; simp at this; omega
              have hle := HI.out.rdr.le
              have hsm := HI.out.rdr.small
              by_cases hk0 : kind = 0
              · subst hk0
                have hR := rnum_any size rb v xs pos _ HIa.rdr
                go_wp2_with fail
                refine hR.mono ?_
                clear hR
                rintro e w1' ⟨rfl, hR1, hCr⟩
                have HI1 := HIa.read hR1 hCr
                have d1 := hCr.cell (new_cell wr #[.int .i64 0, .int .i64 size, .int .u64 n, .string s] 34 (i := 1) rfl) hneS
                have hg := refGet_any _ xs pos size w1' (HS.out.fr HI1.old) hle hsm
                generalize rVal (xs.drop pos) size = q at *
                generalize rErr (xs.drop pos) size = E at *
                generalize rPos (xs.drop pos) size pos = p at *
                go_wp2_with fail
                refine hg.mono ?_
                clear hg hR1
                rintro e w2 ⟨rfl, hC2'⟩
                have HI2 := HI1.fr hC2'
                have hle2 := HI2.rdr.le
                have hsm2 := HI2.rdr.small
                have hl := left_any _ _ _ _ _ HI2.rdr
                rw [show ((xs.length - p : Nat) : Int) = (xs.length : Int) - p by omega] at hl
                by_cases hpe : p = xs.length
                · have hen : ∀ q, Calls Try.prog 29 #[.pointer (some ⟨rb, 0, none⟩)] (w2.drewN q) fun e w' => e = .returned (.int .i64 0) ∧ ∃ n, w' = (w2.drewN q).drewN n := fun q => by
                    have := end_any _ _ _ _ _ (HI2.rdr.fr ((Chg.refl _ w2).drewN q)); rw [if_pos hpe] at this; exact this
                  have q1 : ((p : Int) == (xs.length : Int)) = true := by rw [hpe]; exact beq_self_eq_true _
                  clear hpe
                  go_wp2_with (first | (go_at_call 28; refine hl.mono ?_; rintro e w' ⟨rfl, q2, rfl⟩) | (go_at_call 29; refine (hen _).mono ?_; rintro e w' ⟨rfl, q3, rfl⟩))
                  go_roundw
                  case rel => exact ⟨k + 1, p, by omega, by go_num, rfl, HI2.fr ((Chg.refl _ w2).drewN _)⟩
                  case measure => first | (simp [intOf]; done) | (simp [intOf]; omega)
                · have hen : ∀ q, Calls Try.prog 29 #[.pointer (some ⟨rb, 0, none⟩)] (w2.drewN q) fun e w' => e = .returned (.int .i64 10) ∧ ∃ n, w' = (w2.drewN q).drewN n := fun q => by
                    have := end_any _ _ _ _ _ (HI2.rdr.fr ((Chg.refl _ w2).drewN q)); rw [if_neg hpe] at this; exact this
                  have q1 : ((p : Int) == (xs.length : Int)) = false := by rw [beq_eq_false_iff_ne]; omega
                  clear hpe
                  go_wp2_with (first | (go_at_call 28; refine hl.mono ?_; rintro e w' ⟨rfl, q2, rfl⟩) | (go_at_call 29; refine (hen _).mono ?_; rintro e w' ⟨rfl, q3, rfl⟩))
                  go_roundw
                  case rel => exact ⟨k + 1, p, by omega, by go_num, rfl, HI2.fr ((Chg.refl _ w2).drewN _)⟩
                  case measure => first | (simp [intOf]; done) | (simp [intOf]; omega)
              · by_cases hk1 : kind = 1
                · subst hk1
                  clear hk0
                  have hR := rint_any rb v xs pos _ HIa.rdr
                  rw [wrapEq] at hR
                  go_wp2_with fail
                  refine hR.mono ?_
                  clear hR
                  rintro e w1' ⟨rfl, hR1, hCr⟩
                  have HI1 := HIa.read hR1 hCr
                  have hg := refGet_any _ xs pos 8 w1' (HS.out.fr HI1.old) hle hsm
                  generalize rVal (xs.drop pos) 8 = q at *
                  generalize rErr (xs.drop pos) 8 = E at *
                  generalize rPos (xs.drop pos) 8 pos = p at *
                  go_wp2_with fail
                  refine hg.mono ?_
                  clear hg hR1
                  rintro e w2 ⟨rfl, hC2'⟩
                  have HI2 := HI1.fr hC2'
                  have hle2 := HI2.rdr.le
                  have hsm2 := HI2.rdr.small
                  have hl := left_any _ _ _ _ _ HI2.rdr
                  rw [show ((xs.length - p : Nat) : Int) = (xs.length : Int) - p by omega] at hl
                  by_cases hpe : p = xs.length
                  · have hen : ∀ q, Calls Try.prog 29 #[.pointer (some ⟨rb, 0, none⟩)] (w2.drewN q) fun e w' => e = .returned (.int .i64 0) ∧ ∃ n, w' = (w2.drewN q).drewN n := fun q => by
                      have := end_any _ _ _ _ _ (HI2.rdr.fr ((Chg.refl _ w2).drewN q)); rw [if_pos hpe] at this; exact this
                    have q1 : ((p : Int) == (xs.length : Int)) = true := by rw [hpe]; exact beq_self_eq_true _
                    clear hpe
                    go_wp2_with (first | (go_at_call 28; refine hl.mono ?_; rintro e w' ⟨rfl, q2, rfl⟩) | (go_at_call 29; refine (hen _).mono ?_; rintro e w' ⟨rfl, q3, rfl⟩))
                    go_roundw
                    case rel => exact ⟨k + 1, p, by omega, by go_num, rfl, HI2.fr ((Chg.refl _ w2).drewN _)⟩
                    case measure => first | (simp [intOf]; done) | (simp [intOf]; omega)
                  · have hen : ∀ q, Calls Try.prog 29 #[.pointer (some ⟨rb, 0, none⟩)] (w2.drewN q) fun e w' => e = .returned (.int .i64 10) ∧ ∃ n, w' = (w2.drewN q).drewN n := fun q => by
                      have := end_any _ _ _ _ _ (HI2.rdr.fr ((Chg.refl _ w2).drewN q)); rw [if_neg hpe] at this; exact this
                    have q1 : ((p : Int) == (xs.length : Int)) = false := by rw [beq_eq_false_iff_ne]; omega
                    clear hpe
                    go_wp2_with (first | (go_at_call 28; refine hl.mono ?_; rintro e w' ⟨rfl, q2, rfl⟩) | (go_at_call 29; refine (hen _).mono ?_; rintro e w' ⟨rfl, q3, rfl⟩))
                    go_roundw
                    case rel => exact ⟨k + 1, p, by omega, by go_num, rfl, HI2.fr ((Chg.refl _ w2).drewN _)⟩
                    case measure => first | (simp [intOf]; done) | (simp [intOf]; omega)
                · by_cases hk2 : kind = 2
                  · subst hk2
                    clear hk0 hk1
                    have hR := rtext_any rb v xs pos _ HIa.rdr
                    have hg := fun w h => refGetText_any (.slice aob xs.length cb) xs pos w h hle hsm
                    obtain ⟨S1, hS1, q1, q2⟩ := str_name (txtVal (xs.drop pos))
                    rw [hS1] at hR
                    simp only [hS1] at hg
                    clear hS1 q1 q2
                    go_wp2_with fail
                    refine hR.mono ?_
                    clear hR
                    rintro e w1' ⟨rfl, hR1, hCr⟩
                    have HI1 := HIa.read hR1 hCr
                    have hg := hg w1' (HS.out.fr HI1.old)
                    generalize txtErr (xs.drop pos) = E at *
                    generalize txtPos (xs.drop pos) pos = p at *
                    go_wp2_with fail
                    refine hg.mono ?_
                    clear hg hR1
                    rintro e w2 ⟨rfl, hC2'⟩
                    have HI2 := HI1.fr hC2'
                    have hle2 := HI2.rdr.le
                    have hsm2 := HI2.rdr.small
                    have hl := left_any _ _ _ _ _ HI2.rdr
                    rw [show ((xs.length - p : Nat) : Int) = (xs.length : Int) - p by omega] at hl
                    by_cases hpe : p = xs.length
                    · have hen : ∀ q, Calls Try.prog 29 #[.pointer (some ⟨rb, 0, none⟩)] (w2.drewN q) fun e w' => e = .returned (.int .i64 0) ∧ ∃ n, w' = (w2.drewN q).drewN n := fun q => by
                        have := end_any _ _ _ _ _ (HI2.rdr.fr ((Chg.refl _ w2).drewN q)); rw [if_pos hpe] at this; exact this
                      have q1 : ((p : Int) == (xs.length : Int)) = true := by rw [hpe]; exact beq_self_eq_true _
                      clear hpe
                      go_wp2_with (first | (go_at_call 28; refine hl.mono ?_; rintro e w' ⟨rfl, q2, rfl⟩) | (go_at_call 29; refine (hen _).mono ?_; rintro e w' ⟨rfl, q3, rfl⟩))
                      go_roundw
                      case rel => exact ⟨k + 1, p, by omega, by go_num, rfl, HI2.fr ((Chg.refl _ w2).drewN _)⟩
                      case measure => first | (simp [intOf]; done) | (simp [intOf]; omega)
                    · have hen : ∀ q, Calls Try.prog 29 #[.pointer (some ⟨rb, 0, none⟩)] (w2.drewN q) fun e w' => e = .returned (.int .i64 10) ∧ ∃ n, w' = (w2.drewN q).drewN n := fun q => by
                        have := end_any _ _ _ _ _ (HI2.rdr.fr ((Chg.refl _ w2).drewN q)); rw [if_neg hpe] at this; exact this
                      have q1 : ((p : Int) == (xs.length : Int)) = false := by rw [beq_eq_false_iff_ne]; omega
                      clear hpe
                      go_wp2_with (first | (go_at_call 28; refine hl.mono ?_; rintro e w' ⟨rfl, q2, rfl⟩) | (go_at_call 29; refine (hen _).mono ?_; rintro e w' ⟨rfl, q3, rfl⟩))
                      go_roundw
                      case rel => exact ⟨k + 1, p, by omega, by go_num, rfl, HI2.fr ((Chg.refl _ w2).drewN _)⟩
                      case measure => first | (simp [intOf]; done) | (simp [intOf]; omega)
                  · by_cases hk3 : kind = 3
                    · subst hk3
                      clear hk0 hk1 hk2
                      have hR := rraw_any size rb v xs pos _ HIa.rdr
                      have hg := fun w h => refGetRaw_any (.slice aob xs.length cb) xs pos size w h hle hsm
                      obtain ⟨S1, hS1, q1, q2⟩ := str_name (rawVal (xs.drop pos) size)
                      have HS1 := Lib.hid hS1
                      clear hS1 q1 q2
                      go_wp2_with fail
                      refine hR.mono ?_
                      clear hR
                      rintro e w1' ⟨u1, rfl, ho1, hR1, hCr⟩
                      have HI1 := HIa.read hR1 hCr
                      have d1 := hCr.cell (new_cell wr #[.int .i64 3, .int .i64 size, .int .u64 n, .string s] 34 (i := 1) rfl) hneS
                      have hg := hg w1' (HS.out.fr HI1.old)
                      have hys : (rawVal (xs.drop pos) size).length ≤ 140737488355328 := by
                        unfold rawVal
                        split
                        · rw [List.length_take, List.length_drop]; omega
                        · simp
                      generalize rawErr (xs.drop pos) size = E at *
                      generalize rawPos (xs.drop pos) size pos = p at *
                      generalize rawVal (xs.drop pos) size = ys at *
                      go_wp2_with fail
                      refine hg.mono ?_
                      clear hg hR1
                      rintro e w2' ⟨u2', rfl, ho2, hC2'⟩
                      have HI2' := HI1.fr hC2'
                      have hcv1 := conv_sl ((Sl.of_owns ho1).fr hC2')
                      have hcv2 := conv_sl (Sl.of_owns ho2)
                      rw [HS1.out] at hcv1 hcv2
                      obtain ⟨ao1, L1, c1, rfl, hL1⟩ := owns_name ho1
                      have hrow := row_of_owns (hC2'.owns ho1 (fun _ _ => id)) hL1.out
                      have hL63 : L1 ≤ 140737488355328 := by rw [hL1.out]; exact hys
                      have HROW := Lib.hid hrow
                      have HO1 := Lib.hid ho1
                      have HI2H := Lib.hid HI2'
                      have HHL1 := Lib.hid hL1.out
                      clear hrow ho1 HI2' hL1 hys
                      obtain ⟨wq, hwq⟩ : ∃ wq : World, wq = wr := ⟨_, rfl⟩
                      subst hwq
                      go_wp2_with fail
                      go_loopw [165] (fun i wz => ∃ j : Nat, j ≤ L1 ∧ i = .int .i64 j ∧ Chg (fun q => (Value.slice ao1 L1 c1).ownBlock = some q) w2' wz ∧ (∀ q, q < L1 → ∃ (g : Nat) (m : Int), ao1 = some ⟨g, 0, none⟩ ∧ wz.cell? ⟨g, q, none⟩ = some (.int .u8 m) ∧ wz.frozen? ⟨g, q, none⟩ = false))
                        (fun i _ => L1 - (intOf i).toNat)
                      case atStart => exact ⟨0, Nat.zero_le _, rfl, Chg.refl _ _, HROW.out⟩
                      case round =>
                        obtain ⟨j, hj, rfl, hCz, hcz⟩ := hrel
                        by_cases hjl : j < L1
                        · obtain ⟨g, m, rfl, hc, hf⟩ := hcz j hjl
                          have HZ := Lib.hid hcz
                          clear hcz
                          go_wp2
                          go_roundw
                          case rel =>
                            refine ⟨j + 1, by omega, by go_num, hCz.setCell (p := ⟨g, j, none⟩) (.inl rfl) _, fun q hq => ?_⟩
                            by_cases hqj : q = j
                            · subst hqj
                              exact ⟨g, _, rfl, World.cell?_setCell_same' _ _ _ (by rw [hc]; rfl), by rw [World.frozen?_setCell]; exact hf⟩
                            · obtain ⟨g2, m2, e2, c2, f2⟩ := HZ.out q hq
                              injection e2 with e2
                              injection e2 with e2 _
                              subst e2
                              exact ⟨g, m2, rfl, by rw [World.cell?_setCell_other _ _ _ _ (by first | (simp; done) | (simp; omega))]; exact c2, by rw [World.frozen?_setCell]; exact f2⟩
                          case measure => first | (simp [intOf]; done) | (simp [intOf]; omega)
                        · obtain rfl : j = L1 := by omega
                          have hlt1 := HO1.out.lt
                          have hsz : wq.heap.size ≤ (wq.alloc (.cells #[.int .i64 3, .int .i64 size, .int .u64 n, .string s] 34)).heap.size := hA.size
                          have HI2 : RInv W wr rb v xs p := RInv.other (u := .slice ao1 j c1) HI2H.out hCz
                            (fun e => by have := (hlt1 _ e).1; have := cell_lt HIa.rdr.c0; simp at *; omega) (fun k hk e => by have := (hlt1 _ e).1; have := HIa.rdr.vlt k hk; omega) (fun k e => by have := (hlt1 _ e).1; have := HIa.old.size; omega)
                          obtain ⟨w2, hw2⟩ : ∃ w2 : World, w2 = wr := ⟨_, rfl⟩
                          subst hw2
                          clear hcz HROW HO1 HI2H HHL1 hCz hcv1 hcv2 hlt1 hsz
                          have hle2 := HI2.rdr.le
                          have hsm2 := HI2.rdr.small
                          have hl := left_any _ _ _ _ _ HI2.rdr
                          rw [show ((xs.length - p : Nat) : Int) = (xs.length : Int) - p by omega] at hl
                          by_cases hpe : p = xs.length
                          · have hen : ∀ q, Calls Try.prog 29 #[.pointer (some ⟨rb, 0, none⟩)] (w2.drewN q) fun e w' => e = .returned (.int .i64 0) ∧ ∃ n, w' = (w2.drewN q).drewN n := fun q => by
                              have := end_any _ _ _ _ _ (HI2.rdr.fr ((Chg.refl _ w2).drewN q)); rw [if_pos hpe] at this; exact this
                            have q1 : ((p : Int) == (xs.length : Int)) = true := by rw [hpe]; exact beq_self_eq_true _
                            clear hpe
                            go_wp2_with (first | (go_at_call 28; refine hl.mono ?_; rintro e w' ⟨rfl, q2, rfl⟩) | (go_at_call 29; refine (hen _).mono ?_; rintro e w' ⟨rfl, q3, rfl⟩))
                            go_roundw
                            case rel => exact ⟨k + 1, p, by omega, by go_num, rfl, HI2.fr ((Chg.refl _ w2).drewN _)⟩
                            case measure => first | (simp [intOf]; done) | (simp [intOf]; omega)
                          · have hen : ∀ q, Calls Try.prog 29 #[.pointer (some ⟨rb, 0, none⟩)] (w2.drewN q) fun e w' => e = .returned (.int .i64 10) ∧ ∃ n, w' = (w2.drewN q).drewN n := fun q => by
                              have := end_any _ _ _ _ _ (HI2.rdr.fr ((Chg.refl _ w2).drewN q)); rw [if_neg hpe] at this; exact this
                            have q1 : ((p : Int) == (xs.length : Int)) = false := by rw [beq_eq_false_iff_ne]; omega
                            clear hpe
                            go_wp2_with (first | (go_at_call 28; refine hl.mono ?_; rintro e w' ⟨rfl, q2, rfl⟩) | (go_at_call 29; refine (hen _).mono ?_; rintro e w' ⟨rfl, q3, rfl⟩))
                            go_roundw
                            case rel => exact ⟨k + 1, p, by omega, by go_num, rfl, HI2.fr ((Chg.refl _ w2).drewN _)⟩
                            case measure => first | (simp [intOf]; done) | (simp [intOf]; omega)
                    · have q0 : (kind == 0) = false := by simpa using hk0
                      have q1 : (kind == 1) = false := by simpa using hk1
                      have q2 : (kind == 2) = false := by simpa using hk2
                      have q3 : (kind == 3) = false := by simpa using hk3
                      clear hk0 hk1 hk2 hk3
                      obtain ⟨w2, hw2⟩ : ∃ w2, wr.alloc (.cells #[.int .i64 kind, .int .i64 size, .int .u64 n, .string s] 34) = w2 := ⟨_, rfl⟩
                      have HI2 : RInv W w2 rb v xs pos := by rw [← hw2]; exact HIa
                      obtain ⟨p, hp⟩ : ∃ p, p = pos := ⟨_, rfl⟩
                      subst hp
                      have HW2 := Lib.hid hw2
                      clear hw2
                      go_wp2_with fail
                      rw [HW2.out]
                      have hle2 := HI2.rdr.le
                      have hsm2 := HI2.rdr.small
                      have hl := left_any _ _ _ _ _ HI2.rdr
                      rw [show ((xs.length - p : Nat) : Int) = (xs.length : Int) - p by omega] at hl
                      by_cases hpe : p = xs.length
                      · have hen : ∀ q, Calls Try.prog 29 #[.pointer (some ⟨rb, 0, none⟩)] (w2.drewN q) fun e w' => e = .returned (.int .i64 0) ∧ ∃ n, w' = (w2.drewN q).drewN n := fun q => by
                          have := end_any _ _ _ _ _ (HI2.rdr.fr ((Chg.refl _ w2).drewN q)); rw [if_pos hpe] at this; exact this
                        have q1 : ((p : Int) == (xs.length : Int)) = true := by rw [hpe]; exact beq_self_eq_true _
                        clear hpe
                        go_wp2_with (first | (go_at_call 28; refine hl.mono ?_; rintro e w' ⟨rfl, q2, rfl⟩) | (go_at_call 29; refine (hen _).mono ?_; rintro e w' ⟨rfl, q3, rfl⟩))
                        go_roundw
                        case rel => exact ⟨k + 1, p, by omega, by go_num, rfl, HI2.fr ((Chg.refl _ w2).drewN _)⟩
                        case measure => first | (simp [intOf]; done) | (simp [intOf]; omega)
                      · have hen : ∀ q, Calls Try.prog 29 #[.pointer (some ⟨rb, 0, none⟩)] (w2.drewN q) fun e w' => e = .returned (.int .i64 10) ∧ ∃ n, w' = (w2.drewN q).drewN n := fun q => by
                          have := end_any _ _ _ _ _ (HI2.rdr.fr ((Chg.refl _ w2).drewN q)); rw [if_neg hpe] at this; exact this
                        have q1 : ((p : Int) == (xs.length : Int)) = false := by rw [beq_eq_false_iff_ne]; omega
                        clear hpe
                        go_wp2_with (first | (go_at_call 28; refine hl.mono ?_; rintro e w' ⟨rfl, q2, rfl⟩) | (go_at_call 29; refine (hen _).mono ?_; rintro e w' ⟨rfl, q3, rfl⟩))
                        go_roundw
                        case rel => exact ⟨k + 1, p, by omega, by go_num, rfl, HI2.fr ((Chg.refl _ w2).drewN _)⟩
                        case measure => first | (simp [intOf]; done) | (simp [intOf]; omega)
            · obtain rfl : k = l.length := by omega
              go_wp2
              go_ret
              exact ⟨rfl, HI.out.old⟩
end Go.Proofs.Ytjinbjbcfmhnmaa
