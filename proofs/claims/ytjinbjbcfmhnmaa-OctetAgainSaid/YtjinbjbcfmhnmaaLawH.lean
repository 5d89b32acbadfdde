/- OctetAgain's walk. -/
import Derived.Test.YtjinbjbcfmhnmaaLawG
import Derived.Deep.RegionHeld3
namespace Go.Proofs.Ytjinbjbcfmhnmaa
open Go.RowKit

section
variable {P : Program} {ops : Array Oper} {Q : Exit → Act → World → Prop} {md : Region.Mode} {S S' : World → Prop}
/-- What is held in a region may be made narrower on the way. -/
theorem wpAnyH_change (h : ∀ w, S' w → S w) : ∀ (fuel : Nat) (listed : Array Bool) (a : Act) (w : World), wpAnyH P md ops Q S' fuel listed a w → wpAnyH P md ops Q S fuel listed a w
  | 0, _, _, _, H => H
  | fuel + 1, _, _, _, H => ⟨H.1, fun i hi => wpOp_mono (fun a' w' h' => ⟨h _ h'.1, wpAnyH_change h fuel _ a' w' h'.2⟩) (H.2 i hi)⟩
end

set_option maxRecDepth 100000 in
set_option maxHeartbeats 2000000 in
theorem octetAgain_walk (vb : Value) (xs : List UInt8) (v0 : Value) (l : List OpD) (W : World) (hS : Sl W vb (xs.map B)) (hO : Ops W v0 l) : Calls Try.prog 6 #[vb, v0] W (True_ W) := by
  obtain ⟨ao, c, rfl, g1, g2⟩ := hO.form
  obtain ⟨aob, cb, hvb, g3, g4, _⟩ := hS.form
  rw [List.length_map] at g3 hvb
  unfold maxLen at g2 g4
  have HO := Lib.hid hO
  have HS := Lib.hid hS
  subst hvb
  clear hO hS
  by_cases hgr : isGreat l = true
  · go_enter Try.func6, Try.ntmps6
    go_wp2_with fail
    refine (alive_any W).mono ?_
    rintro e w0 ⟨rfl, hA⟩
    have hG := great_any _ l w0 (HO.out.fr hA)
    rw [hgr] at hG
    clear hgr
    go_wp2_with (go_at_call 12; refine hG.mono ?_; rintro e w' ⟨rfl, rfl⟩)
    go_ret
    exact ⟨rfl, hA⟩
  · have hgr' : isGreat l = false := by simpa using hgr
    by_cases hbig : 10000 < xs.length
    · clear hgr
      go_enter Try.func6, Try.ntmps6
      go_wp2_with fail
      refine (alive_any W).mono ?_
      rintro e w0 ⟨rfl, hA⟩
      have hG := great_any _ l w0 (HO.out.fr hA)
      rw [hgr'] at hG
      clear hgr'
      go_wp2_with (go_at_call 12; refine hG.mono ?_; rintro e w' ⟨rfl, rfl⟩)
      go_ret
      exact ⟨rfl, hA⟩
    · have hl100 : l.length ≤ 100 := by unfold isGreat at hgr'; simp at hgr'; omega
      have hsum : sumS l ≤ 100000 := by unfold isGreat at hgr'; simp at hgr'; omega
      clear hgr
      go_enter Try.func6, Try.ntmps6
      go_wp2_with fail
      refine (alive_any W).mono ?_
      rintro e w0 ⟨rfl, hA⟩
      have hG := great_any _ l w0 (HO.out.fr hA)
      rw [hgr'] at hG
      clear hgr'
      have hS0 := HS.out.fr hA
      have HS0 := Lib.hid hS0
      have hrd := read_any (.slice aob xs.length cb) xs w0 hS0 (by omega)
      clear hS0
      go_wp2_with (go_at_call 12; refine hG.mono ?_; rintro e w' ⟨rfl, rfl⟩)
      refine hrd.mono ?_
      clear hrd
      rintro e w2 ⟨rb, v, rfl, hb1, hv1, hR0, hC2⟩
      have hI0 : AInv w0 (w2.alloc (.cells #[.slice none 0 0] 26)) (w2.heap.size + 1) w2.heap.size rb (.slice none 0 0) v xs 0 0 :=
        ⟨⟨hR0.fr ((Chg.refl _ w2).alloc _), hC2.alloc _, hb1, hv1⟩, Wtr.new w2 _, hC2.size, by have := cell_lt hR0.c0; simp at this; omega, fun k hk => hR0.vlt k hk, by simp⟩
      have HI0 := Lib.hid hI0
      clear hI0 hR0 hC2
      go_wp2_with fail
      go_loopw [33] (fun i wr => ∃ (k pos : Nat) (u : Value), k ≤ l.length ∧ i = .int .i64 k ∧ AInv w0 wr (w2.heap.size + 1) w2.heap.size rb u v xs pos pos)
        (fun i _ => l.length - (intOf i).toNat)
      case atStart => exact ⟨0, 0, _, Nat.zero_le _, rfl, HI0.out⟩
      case round =>
        obtain ⟨k, pos, u, hk, rfl, hI⟩ := hrel
        have HI := Lib.hid hI
        clear hI
        by_cases hlt : k < l.length
        · obtain ⟨b, o, c', e1, hx⟩ := HO.out.cells k hlt
          injection e1 with e1 e2 e3
          subst e1
          have hx := hx.chg (hA.tr HI.out.r.old) id
          have hok := HO.out.ok _ (List.getElem_mem hlt)
          have hs := Nat.le_trans (sumS_mem (List.getElem_mem hlt)) hsum
          obtain ⟨x, hxx⟩ : ∃ x, x = l[k] := ⟨_, rfl⟩
          rw [← hxx] at hx hok hs
          obtain ⟨kind, size, n, s⟩ := x
          have h0 := hx.c0
          have h1 := hx.c1
          have h2 := hx.c2
          have h3 := hx.c3
          have n1 := hok.n1
          have n2 := hok.n2
          dsimp only at h0 h1 h2 h3 hs n1 n2
          clear hxx hx e2 e3 hok
          have hAl : Chg (fun _ => False) wr (wr.alloc (.cells #[.int .i64 kind, .int .i64 size, .int .u64 n, .string s] 34)) := (Chg.refl _ wr).alloc _
          have HAa := HI.out.fr hAl
          have hne1 : ¬ wr.heap.size = rb := fun e => by have := cell_lt HI.out.r.rdr.c0; simp at this; omega
          have hne2 : wr.heap.size ≠ w2.heap.size := fun e => by have := HI.out.sz; omega
          have hne3 : ∀ q, u.ownBlock = some q → wr.heap.size ≠ q := fun q hq e => by have := (HI.out.wtr.owns.lt q hq).2; omega
          have hne4 : ∀ q, v.ownBlock = some q → wr.heap.size ≠ q := fun q hq e => by have := HI.out.hv q hq; have := HI.out.sz; omega
          have hne5 : w0.heap.size ≤ wr.heap.size := HI.out.r.old.size
          have hN := HI.out.r.rdr.le
          have hsm := HI.out.r.rdr.small
          by_cases hk0 : kind = 0
          · subst hk0
            have hR := rnum_any size rb v xs pos _ HAa.r.rdr
            have hag := again0 (xs.drop pos) pos size s
            have hq := rVal_lti (xs.drop pos) size
            go_wp2_with fail
            refine hR.mono ?_
            clear hR
            rintro e w1' ⟨rfl, hR1, hCr⟩
            have HA1 := HAa.read hR1 hCr
            have d0 := hCr.cell (new_cell wr #[.int .i64 0, .int .i64 size, .int .u64 n, .string s] 34 (i := 0) rfl) hne1
            have d1 := hCr.cell (new_cell wr #[.int .i64 0, .int .i64 size, .int .u64 n, .string s] 34 (i := 1) rfl) hne1
            have d2 := hCr.cell (new_cell wr #[.int .i64 0, .int .i64 size, .int .u64 n, .string s] 34 (i := 2) rfl) hne1
            have d3 := hCr.cell (new_cell wr #[.int .i64 0, .int .i64 size, .int .u64 n, .string s] 34 (i := 3) rfl) hne1
            have f2 := hCr.frozen (new_cell wr #[.int .i64 0, .int .i64 size, .int .u64 n, .string s] 34 (i := 2) rfl) (new_frozen wr _ _ _) hne1
            generalize rVal (xs.drop pos) size = q at *
            generalize rErr (xs.drop pos) size = E at *
            generalize rPos (xs.drop pos) size pos = p at *
            have HA2 := HA1.box (g := wr.heap.size) (chg_box w1' wr.heap.size 2 (.int .u64 q)) hne5 hne2 hne1 hne3 hne4
            clear HA1 hR1 hCr HAa
            have HA2H := Lib.hid HA2
            have HH := Lib.hid hag
            by_cases hE : E = 0
            · subst hE
              obtain ⟨hok, m, hm1, hm2, hm3⟩ := hag.1 rfl
              have hwr := write_any (⟨0, size, q, s⟩ : OpD) w2.heap.size (w2.heap.size + 1) u (xs.take pos) _ (Int.natCast_nonneg _) hq hs HA2.wtr (by rw [List.length_take]; omega) HA2.sz
              unfold OpD.val at hwr
              rw [hok, hm3, ← List.take_add, ← hm2] at hwr
              clear hok hm1 hm2 hm3 hag HA2
              go_wp2_with fail
              refine hwr.mono ?_
              clear hwr
              rintro e w5 ⟨rfl, u5, hR5⟩
              go_wp2
              go_roundw
              case rel => exact ⟨k + 1, p, u5, by omega, by go_num, HA2H.out.wrote hR5⟩
              case measure => first | (simp [intOf]; done) | (simp [intOf]; omega)
            · have hpp := hag.2 hE
              have g1 : (E == 0) = false := by simpa using hE
              clear hE hag HA2
              go_wp2
              go_roundw
              case rel => exact ⟨k + 1, p, u, by omega, by go_num, by have := HA2H.out; rw [← hpp] at this; exact this⟩
              case measure => first | (simp [intOf]; done) | (simp [intOf]; omega)
          · by_cases hk1 : kind = 1
            · subst hk1
              clear hk0
              have hR := rint_any rb v xs pos _ HAa.r.rdr
              rw [wrapEq] at hR
              have hag := again1 (xs.drop pos) pos size s
              have hq := rVal_lti (xs.drop pos) 8
              have hu := u64_wrap64 _ (rVal_lt (xs.drop pos) 8)
              generalize wrap64 (rVal (xs.drop pos) 8 : Nat) = z at *
              go_wp2_with fail
              refine hR.mono ?_
              clear hR
              rintro e w1' ⟨rfl, hR1, hCr⟩
              have HA1 := HAa.read hR1 hCr
              have d0 := hCr.cell (new_cell wr #[.int .i64 1, .int .i64 size, .int .u64 n, .string s] 34 (i := 0) rfl) hne1
              have d1 := hCr.cell (new_cell wr #[.int .i64 1, .int .i64 size, .int .u64 n, .string s] 34 (i := 1) rfl) hne1
              have d2 := hCr.cell (new_cell wr #[.int .i64 1, .int .i64 size, .int .u64 n, .string s] 34 (i := 2) rfl) hne1
              have d3 := hCr.cell (new_cell wr #[.int .i64 1, .int .i64 size, .int .u64 n, .string s] 34 (i := 3) rfl) hne1
              have f2 := hCr.frozen (new_cell wr #[.int .i64 1, .int .i64 size, .int .u64 n, .string s] 34 (i := 2) rfl) (new_frozen wr _ _ _) hne1
              generalize rVal (xs.drop pos) 8 = q at *
              generalize rErr (xs.drop pos) 8 = E at *
              generalize rPos (xs.drop pos) 8 pos = p at *
              have HA2 := HA1.box (g := wr.heap.size) (chg_box w1' wr.heap.size 2 (.int .u64 q)) hne5 hne2 hne1 hne3 hne4
              clear HA1 hR1 hCr HAa
              have HA2H := Lib.hid HA2
              have HH := Lib.hid hag
              by_cases hE : E = 0
              · subst hE
                obtain ⟨hok, m, hm1, hm2, hm3⟩ := hag.1 rfl
                have hwr := write_any (⟨1, size, q, s⟩ : OpD) w2.heap.size (w2.heap.size + 1) u (xs.take pos) _ (Int.natCast_nonneg _) hq hs HA2.wtr (by rw [List.length_take]; omega) HA2.sz
                unfold OpD.val at hwr
                rw [hok, hm3, ← List.take_add, ← hm2] at hwr
                clear hok hm1 hm2 hm3 hag HA2
                go_wp2_with fail
                refine hwr.mono ?_
                clear hwr
                rintro e w5 ⟨rfl, u5, hR5⟩
                go_wp2
                go_roundw
                case rel => exact ⟨k + 1, p, u5, by omega, by go_num, HA2H.out.wrote hR5⟩
                case measure => first | (simp [intOf]; done) | (simp [intOf]; omega)
              · have hpp := hag.2 hE
                have g1 : (E == 0) = false := by simpa using hE
                clear hE hag HA2
                go_wp2
                go_roundw
                case rel => exact ⟨k + 1, p, u, by omega, by go_num, by have := HA2H.out; rw [← hpp] at this; exact this⟩
                case measure => first | (simp [intOf]; done) | (simp [intOf]; omega)
            · by_cases hk2 : kind = 2
              · subst hk2
                clear hk0 hk1
                have hR := rtext_any rb v xs pos _ HAa.r.rdr
                obtain ⟨S1, hS1, q1, q2⟩ := str_name (txtVal (xs.drop pos))
                have hag := again2 (xs.drop pos) pos size n S1 q1
                have hs1 : S1.size ≤ 100000 := by
                  rw [q2]
                  unfold txtVal
                  split
                  · rw [List.length_take, List.length_drop, List.length_drop]; omega
                  · simp
                rw [hS1] at hR
                clear hS1 q1 q2
                go_wp2_with fail
                refine hR.mono ?_
                clear hR
                rintro e w1' ⟨rfl, hR1, hCr⟩
                have HA1 := HAa.read hR1 hCr
                have d0 := hCr.cell (new_cell wr #[.int .i64 2, .int .i64 size, .int .u64 n, .string s] 34 (i := 0) rfl) hne1
                have d1 := hCr.cell (new_cell wr #[.int .i64 2, .int .i64 size, .int .u64 n, .string s] 34 (i := 1) rfl) hne1
                have d2 := hCr.cell (new_cell wr #[.int .i64 2, .int .i64 size, .int .u64 n, .string s] 34 (i := 2) rfl) hne1
                have d3 := hCr.cell (new_cell wr #[.int .i64 2, .int .i64 size, .int .u64 n, .string s] 34 (i := 3) rfl) hne1
                have f3 := hCr.frozen (new_cell wr #[.int .i64 2, .int .i64 size, .int .u64 n, .string s] 34 (i := 3) rfl) (new_frozen wr _ _ _) hne1
                generalize txtErr (xs.drop pos) = E at *
                generalize txtPos (xs.drop pos) pos = p at *
                have HA2 := HA1.box (g := wr.heap.size) (chg_box w1' wr.heap.size 3 (.string S1)) hne5 hne2 hne1 hne3 hne4
                clear HA1 hR1 hCr HAa
                have HA2H := Lib.hid HA2
                have HH := Lib.hid hag
                by_cases hE : E = 0
                · subst hE
                  obtain ⟨hok, m, hm1, hm2, hm3⟩ := hag.1 rfl
                  have hwr := write_any (⟨2, size, n, S1⟩ : OpD) w2.heap.size (w2.heap.size + 1) u (xs.take pos) _ n1 n2 hs1 HA2.wtr (by rw [List.length_take]; omega) HA2.sz
                  unfold OpD.val at hwr
                  rw [hok, hm3, ← List.take_add, ← hm2] at hwr
                  clear hok hm1 hm2 hm3 hag HA2
                  go_wp2_with fail
                  refine hwr.mono ?_
                  clear hwr
                  rintro e w5 ⟨rfl, u5, hR5⟩
                  go_wp2
                  go_roundw
                  case rel => exact ⟨k + 1, p, u5, by omega, by go_num, HA2H.out.wrote hR5⟩
                  case measure => first | (simp [intOf]; done) | (simp [intOf]; omega)
                · have hpp := hag.2 hE
                  have g1 : (E == 0) = false := by simpa using hE
                  clear hE hag HA2
                  go_wp2
                  go_roundw
                  case rel => exact ⟨k + 1, p, u, by omega, by go_num, by have := HA2H.out; rw [← hpp] at this; exact this⟩
                  case measure => first | (simp [intOf]; done) | (simp [intOf]; omega)
              · by_cases hk3 : kind = 3
                · subst hk3
                  clear hk0 hk1 hk2
                  have hR := rraw_any size rb v xs pos _ HAa.r.rdr
                  obtain ⟨S1, hS1, q1, q2⟩ := str_name (rawVal (xs.drop pos) size)
                  have hag := again3 (xs.drop pos) pos size n S1 q1
                  have hs1 : S1.size ≤ 100000 := by
                    rw [q2]
                    unfold rawVal
                    split
                    · rw [List.length_take, List.length_drop]; omega
                    · simp
                  have HS1 := Lib.hid hS1
                  clear hS1 q1 q2
                  go_wp2_with fail
                  refine hR.mono ?_
                  clear hR
                  rintro e w1' ⟨u1, rfl, ho1, hR1, hCr⟩
                  have HA1 := HAa.read hR1 hCr
                  have d0 := hCr.cell (new_cell wr #[.int .i64 3, .int .i64 size, .int .u64 n, .string s] 34 (i := 0) rfl) hne1
                  have d1 := hCr.cell (new_cell wr #[.int .i64 3, .int .i64 size, .int .u64 n, .string s] 34 (i := 1) rfl) hne1
                  have d2 := hCr.cell (new_cell wr #[.int .i64 3, .int .i64 size, .int .u64 n, .string s] 34 (i := 2) rfl) hne1
                  have d3 := hCr.cell (new_cell wr #[.int .i64 3, .int .i64 size, .int .u64 n, .string s] 34 (i := 3) rfl) hne1
                  have f3 := hCr.frozen (new_cell wr #[.int .i64 3, .int .i64 size, .int .u64 n, .string s] 34 (i := 3) rfl) (new_frozen wr _ _ _) hne1
                  have hcv1 := conv_sl (Sl.of_owns ho1)
                  rw [HS1.out] at hcv1
                  generalize rawErr (xs.drop pos) size = E at *
                  generalize rawPos (xs.drop pos) size pos = p at *
                  have HA2 := HA1.box (g := wr.heap.size) (chg_box w1' wr.heap.size 3 (.string S1)) hne5 hne2 hne1 hne3 hne4
                  clear HA1 hR1 hCr HAa ho1
                  have HA2H := Lib.hid HA2
                  have HH := Lib.hid hag
                  by_cases hE : E = 0
                  · subst hE
                    obtain ⟨hok, m, hm1, hm2, hm3⟩ := hag.1 rfl
                    have hwr := write_any (⟨3, size, n, S1⟩ : OpD) w2.heap.size (w2.heap.size + 1) u (xs.take pos) _ n1 n2 hs1 HA2.wtr (by rw [List.length_take]; omega) HA2.sz
                    unfold OpD.val at hwr
                    rw [hok, hm3, ← List.take_add, ← hm2] at hwr
                    clear hok hm1 hm2 hm3 hag HA2
                    go_wp2_with fail
                    refine hwr.mono ?_
                    clear hwr
                    rintro e w5 ⟨rfl, u5, hR5⟩
                    go_wp2
                    go_roundw
                    case rel => exact ⟨k + 1, p, u5, by omega, by go_num, HA2H.out.wrote hR5⟩
                    case measure => first | (simp [intOf]; done) | (simp [intOf]; omega)
                  · have hpp := hag.2 hE
                    have g1 : (E == 0) = false := by simpa using hE
                    clear hE hag HA2
                    go_wp2
                    go_roundw
                    case rel => exact ⟨k + 1, p, u, by omega, by go_num, by have := HA2H.out; rw [← hpp] at this; exact this⟩
                    case measure => first | (simp [intOf]; done) | (simp [intOf]; omega)
                · have q0 : (kind == 0) = false := by simpa using hk0
                  have q1 : (kind == 1) = false := by simpa using hk1
                  have q2 : (kind == 2) = false := by simpa using hk2
                  have q3 : (kind == 3) = false := by simpa using hk3
                  clear hk0 hk1 hk2 hk3
                  go_wp2
                  go_roundw
                  case rel => exact ⟨k + 1, pos, u, by omega, by go_num, HAa⟩
                  case measure => first | (simp [intOf]; done) | (simp [intOf]; omega)
        · obtain rfl : k = l.length := by omega
          obtain ⟨S1, hS1, _, _⟩ := str_name (xs.take pos)
          have HS1 := Lib.hid hS1
          have hl2 : (xs.take pos).length ≤ 140737488355328 := by rw [List.length_take]; omega
          have HL2 := Lib.hid hl2
          have hSW := HS.out.fr (hA.tr HI.out.r.old)
          have hle0 : pos ≤ xs.length := HI.out.r.rdr.le
          obtain ⟨aoS, cS, hSS, _, _, _, hcut⟩ := hSW.slice 24 5 Try.underlying24 sizeOf_u8 0 pos (Nat.zero_le _) (by rw [List.length_map]; exact hle0)
          replace hcut := hcut rfl
          rw [Nat.sub_zero, List.drop_zero, ← List.map_take] at hSS
          rw [Nat.sub_zero] at hcut
          have HSS := Lib.hid hSS
          clear hS1 hl2 hSW hSS hle0
          have hl := left_any _ _ _ _ _ HI.out.r.rdr
          have hle := HI.out.r.rdr.le
          rw [show ((xs.length - pos : Nat) : Int) = (xs.length : Int) - pos by omega] at hl
          have e2 : IntKind.i64.wrap ((xs.length : Int) - ((xs.length : Int) - pos)) = pos := IntWalk.i64_in _ (by omega) |>.trans (by omega)
          go_wp2_with fail
          refine hl.mono ?_
          clear hl
          rintro e w5 ⟨rfl, nq, rfl⟩
          have hIz := (HI.out.fr ((Chg.refl _ wr).drewN nq)).fr ((Chg.refl _ (wr.drewN nq)).drew)
          have hSz := (HSS.out.fr ((Chg.refl _ wr).drewN nq)).fr ((Chg.refl _ (wr.drewN nq)).drew)
          have hb2 := bytes_any _ _ _ _ _ hIz.wtr HL2.out
          have hcv3 := conv_sl hSz
          rw [HS1.out] at hcv3
          have HIz := Lib.hid hIz
          have HSz := Lib.hid hSz
          have hle' : (pos : Int) ≤ (xs.length : Int) := by omega
          clear hIz hSz
          go_wp2_with fail
          clear e2
          have hcA : ∀ w', Chg (fun _ => False) (wr.drewN nq).drew w' → (convert 24 9 (.slice aoS pos cS)).run Try.prog w' = .ok (.string S1) w' := fun w' hC => by have := conv_sl (HSz.out.fr hC); rw [HS1.out] at this; exact this
          have HCA := Lib.hid hcA
          clear hcA
          refine wp_region_held_drew (S := fun w' => Chg (fun _ => False) (wr.drewN nq).drew w' ∧ (convert 24 9 (.slice aoS pos cS)).run Try.prog w' = .ok (.string S1) w') (by kernel_rfl) ⟨Chg.refl _ _, hcv3⟩ (fun hHeld => ?_)
          refine' wpAnyH_take (i := 0) (oi := _) (v := .bool true) ?hi0 (by kernel_rfl) (by kernel_rfl) (by kernel_rfl) ?hq0 (Or.inl ⟨?hw0, fun w hSw => ?hy0⟩) hHeld ?hk0
          case hi0 => (simp only [List.getElem?_toArray, List.getElem?_cons_zero]; rfl)
          case hq0 => exact fun _ _ _ h => h
          case hw0 => rfl
          case hy0 => (first | (go_simp; done) | (go_simp; with_reducible rfl))
          simp only [Act.put, List.setIfInBounds_toArray, List.set_cons_zero, List.set_cons_succ]
          refine' wpAnyH_take (i := 1) (oi := _) (v := .bool true) ?hi1 (by kernel_rfl) (by kernel_rfl) (by kernel_rfl) ?hq1 (Or.inl ⟨?hw1, fun w hSw => ?hy1⟩) hHeld ?hk1
          case hi1 => (simp only [List.getElem?_toArray, List.getElem?_cons_succ, List.getElem?_cons_zero]; rfl)
          case hq1 => exact fun _ _ _ h => h
          case hw1 => rfl
          case hy1 => (first | (go_simp; done) | (go_simp; with_reducible rfl))
          simp only [Act.put, List.setIfInBounds_toArray, List.set_cons_zero, List.set_cons_succ]
          refine' wpAnyH_take (i := 2) (oi := _) (v := .int .i64 pos) ?hi2 (by kernel_rfl) (by kernel_rfl) (by kernel_rfl) ?hq2 (Or.inl ⟨?hw2, fun w hSw => ?hy2⟩) hHeld ?hk2
          case hi2 => (simp only [List.getElem?_toArray, List.getElem?_cons_succ, List.getElem?_cons_zero]; rfl)
          case hq2 => exact fun _ _ _ h => h
          case hw2 => rfl
          case hy2 => (first | (go_simp; done) | (go_simp; with_reducible rfl))
          simp only [Act.put, List.setIfInBounds_toArray, List.set_cons_zero, List.set_cons_succ]
          refine' wpAnyH_take (i := 3) (oi := _) (v := .bool true) ?hi3 (by kernel_rfl) (by kernel_rfl) (by kernel_rfl) ?hq3 (Or.inl ⟨?hw3, fun w hSw => ?hy3⟩) hHeld ?hk3
          case hi3 => (simp only [List.getElem?_toArray, List.getElem?_cons_succ, List.getElem?_cons_zero]; rfl)
          case hq3 => exact fun _ _ _ h => h
          case hw3 => rfl
          case hy3 => (first | (go_simp; done) | (go_simp; with_reducible rfl))
          simp only [Act.put, List.setIfInBounds_toArray, List.set_cons_zero, List.set_cons_succ]
          refine' wpAnyH_take (i := 4) (oi := _) (v := .bool true) ?hi4 (by kernel_rfl) (by kernel_rfl) (by kernel_rfl) ?hq4 (Or.inl ⟨?hw4, fun w hSw => ?hy4⟩) hHeld ?hk4
          case hi4 => (simp only [List.getElem?_toArray, List.getElem?_cons_succ, List.getElem?_cons_zero]; rfl)
          case hq4 => exact fun _ _ _ h => h
          case hw4 => rfl
          case hy4 => (first | (go_simp; done) | (go_simp; with_reducible rfl))
          simp only [Act.put, List.setIfInBounds_toArray, List.set_cons_zero, List.set_cons_succ]
          refine' wpAnyH_take (i := 5) (oi := _) (v := .bool true) ?hi5 (by kernel_rfl) (by kernel_rfl) (by kernel_rfl) ?hq5 (Or.inl ⟨?hw5, fun w hSw => ?hy5⟩) hHeld ?hk5
          case hi5 => (simp only [List.getElem?_toArray, List.getElem?_cons_succ, List.getElem?_cons_zero]; rfl)
          case hq5 => exact fun _ _ _ h => h
          case hw5 => rfl
          case hy5 => (first | (go_simp; done) | (go_simp; with_reducible rfl))
          simp only [Act.put, List.setIfInBounds_toArray, List.set_cons_zero, List.set_cons_succ]
          refine' wpAnyH_take (i := 6) (oi := _) (v := .int .i64 pos) ?hi6 (by kernel_rfl) (by kernel_rfl) (by kernel_rfl) ?hq6 (Or.inl ⟨?hw6, fun w hSw => ?hy6⟩) hHeld ?hk6
          case hi6 => (simp only [List.getElem?_toArray, List.getElem?_cons_succ, List.getElem?_cons_zero]; rfl)
          case hq6 => exact fun _ _ _ h => h
          case hw6 => rfl
          case hy6 => (first | (go_simp; done) | (go_simp; with_reducible rfl))
          simp only [Act.put, List.setIfInBounds_toArray, List.set_cons_zero, List.set_cons_succ]
          refine' wpAnyH_take (i := 7) (oi := _) (v := .slice aob xs.length cb) ?hi7 (by kernel_rfl) (by kernel_rfl) (by kernel_rfl) ?hq7 (Or.inl ⟨?hw7, fun w hSw => ?hy7⟩) hHeld ?hk7
          case hi7 => (simp only [List.getElem?_toArray, List.getElem?_cons_succ, List.getElem?_cons_zero]; rfl)
          case hq7 => exact fun _ _ _ h => h
          case hw7 => rfl
          case hy7 => (first | (go_simp; done) | (go_simp; with_reducible rfl))
          simp only [Act.put, List.setIfInBounds_toArray, List.set_cons_zero, List.set_cons_succ]
          refine' wpAnyH_take (i := 8) (oi := _) (v := .int .i64 xs.length) ?hi8 (by kernel_rfl) (by kernel_rfl) (by kernel_rfl) ?hq8 (Or.inl ⟨?hw8, fun w hSw => ?hy8⟩) hHeld ?hk8
          case hi8 => (simp only [List.getElem?_toArray, List.getElem?_cons_succ, List.getElem?_cons_zero]; rfl)
          case hq8 => exact fun _ _ _ h => h
          case hw8 => rfl
          case hy8 => (first | (go_simp; done) | (go_simp; with_reducible rfl))
          simp only [Act.put, List.setIfInBounds_toArray, List.set_cons_zero, List.set_cons_succ]
          refine' wpAnyH_take (i := 9) (oi := _) (v := .bool true) ?hi9 (by kernel_rfl) (by kernel_rfl) (by kernel_rfl) ?hq9 (Or.inl ⟨?hw9, fun w hSw => ?hy9⟩) hHeld ?hk9
          case hi9 => (simp only [List.getElem?_toArray, List.getElem?_cons_succ, List.getElem?_cons_zero]; rfl)
          case hq9 => exact fun _ _ _ h => h
          case hw9 => rfl
          case hy9 => (first | (go_simp; done) | (go_simp; with_reducible rfl))
          simp only [Act.put, List.setIfInBounds_toArray, List.set_cons_zero, List.set_cons_succ]
          refine' wpAnyH_take (i := 10) (oi := _) (v := .bool true) ?hi10 (by kernel_rfl) (by kernel_rfl) (by kernel_rfl) ?hq10 (Or.inl ⟨?hw10, fun w hSw => ?hy10⟩) hHeld ?hk10
          case hi10 => (simp only [List.getElem?_toArray, List.getElem?_cons_succ, List.getElem?_cons_zero]; rfl)
          case hq10 => exact fun _ _ _ h => h
          case hw10 => rfl
          case hy10 => (first | (go_simp; done) | (go_simp; with_reducible rfl))
          simp only [Act.put, List.setIfInBounds_toArray, List.set_cons_zero, List.set_cons_succ]
          refine' wpAnyH_take (i := 11) (oi := _) (v := .bool true) ?hi11 (by kernel_rfl) (by kernel_rfl) (by kernel_rfl) ?hq11 (Or.inl ⟨?hw11, fun w hSw => ?hy11⟩) hHeld ?hk11
          case hi11 => (simp only [List.getElem?_toArray, List.getElem?_cons_succ, List.getElem?_cons_zero]; rfl)
          case hq11 => exact fun _ _ _ h => h
          case hw11 => rfl
          case hy11 => (first | (go_simp; done) | (go_simp; with_reducible rfl))
          simp only [Act.put, List.setIfInBounds_toArray, List.set_cons_zero, List.set_cons_succ]
          refine' wpAnyH_take (i := 14) (oi := _) (v := .slice aob xs.length cb) ?hi14 (by kernel_rfl) (by kernel_rfl) (by kernel_rfl) ?hq14 (Or.inl ⟨?hw14, fun w hSw => ?hy14⟩) hHeld ?hk14
          case hi14 => (simp only [List.getElem?_toArray, List.getElem?_cons_succ, List.getElem?_cons_zero]; rfl)
          case hq14 => exact fun _ _ _ h => h
          case hw14 => rfl
          case hy14 => (first | (go_simp; done) | (go_simp; with_reducible rfl))
          simp only [Act.put, List.setIfInBounds_toArray, List.set_cons_zero, List.set_cons_succ]
          refine' wpAnyH_take (i := 15) (oi := _) (v := .int .i64 pos) ?hi15 (by kernel_rfl) (by kernel_rfl) (by kernel_rfl) ?hq15 (Or.inl ⟨?hw15, fun w hSw => ?hy15⟩) hHeld ?hk15
          case hi15 => (simp only [List.getElem?_toArray, List.getElem?_cons_succ, List.getElem?_cons_zero]; rfl)
          case hq15 => exact fun _ _ _ h => h
          case hw15 => rfl
          case hy15 => (first | (go_simp; done) | (go_simp; with_reducible rfl))
          simp only [Act.put, List.setIfInBounds_toArray, List.set_cons_zero, List.set_cons_succ]
          refine' wpAnyH_take (i := 16) (oi := _) (v := .slice aoS pos cS) ?hi16 (by kernel_rfl) (by kernel_rfl) (by kernel_rfl) ?hq16 (Or.inl ⟨?hw16, fun w hSw => ?hy16⟩) hHeld ?hk16
          case hi16 => (simp only [List.getElem?_toArray, List.getElem?_cons_succ, List.getElem?_cons_zero]; rfl)
          case hq16 => exact fun _ _ _ h => h
          case hw16 => rfl
          case hy16 => (first | (go_simp; done) | (go_simp; with_reducible rfl))
          simp only [Act.put, List.setIfInBounds_toArray, List.set_cons_zero, List.set_cons_succ]
          refine' wpAnyH_take (i := 17) (oi := _) (v := .string S1) ?hi17 (by kernel_rfl) (by kernel_rfl) (by kernel_rfl) ?hq17 (Or.inl ⟨?hw17, fun w hSw => ?hy17⟩) hHeld ?hk17
          case hi17 => (simp only [List.getElem?_toArray, List.getElem?_cons_succ, List.getElem?_cons_zero]; rfl)
          case hq17 => exact fun _ _ _ h => h
          case hw17 => rfl
          case hy17 => (first | (go_simp; done) | (go_simp; with_reducible rfl))
          simp only [Act.put, List.setIfInBounds_toArray, List.set_cons_zero, List.set_cons_succ]
          refine wpAnyH_ready (rs := [12]) (by kernel_rfl) (by simp) ?_
          refine AllReadyH.cons rfl (fun K hK => ?_) AllReadyH.nil
          go_simp
          go_at_call 11
          refine hb2.mono ?_
          rintro e w4 ⟨u4, rfl, ho4, hC4⟩
          have hcv4 := conv_sl (Sl.of_owns ho4)
          rw [HS1.out] at hcv4
          have hcv5 := HCA.out _ hC4
          refine hK.out _ _ ⟨hC4, hcv5⟩ (fun hHeld4 => ?_)
          clear hK K hHeld hHeld4
          refine wpAnyH_change (S' := fun w' => w' = w4) (fun w' h => h ▸ ⟨hC4, hcv5⟩) _ _ _ _ ?_
          refine' wpAnyH_take (i := 13) (oi := _) (v := .string S1) ?hi13 (by kernel_rfl) (by kernel_rfl) (by kernel_rfl) ?hq13 (Or.inl ⟨?hw13, fun w hSw => ?hy13⟩) rfl ?hk13
          case hi13 => (simp only [List.getElem?_toArray, List.getElem?_cons_succ, List.getElem?_cons_zero]; rfl)
          case hq13 => exact fun _ _ _ h => h
          case hw13 => rfl
          case hy13 => (subst hSw; first | (go_simp; done) | (go_simp; with_reducible rfl))
          simp only [Act.put, List.setIfInBounds_toArray, List.set_cons_zero, List.set_cons_succ]
          refine' wpAnyH_take (i := 18) (oi := _) (v := .bool true) ?hi18 (by kernel_rfl) (by kernel_rfl) (by kernel_rfl) ?hq18 (Or.inl ⟨?hw18, fun w hSw => ?hy18⟩) rfl ?hk18
          case hi18 => (simp only [List.getElem?_toArray, List.getElem?_cons_succ, List.getElem?_cons_zero]; rfl)
          case hq18 => exact fun _ _ _ h => h
          case hw18 => rfl
          case hy18 => (subst hSw; first | (go_simp; done) | (go_simp; with_reducible rfl))
          simp only [Act.put, List.setIfInBounds_toArray, List.set_cons_zero, List.set_cons_succ]
          refine' wpAnyH_take (i := 19) (oi := _) (v := .bool true) ?hi19 (by kernel_rfl) (by kernel_rfl) (by kernel_rfl) ?hq19 (Or.inl ⟨?hw19, fun w hSw => ?hy19⟩) rfl ?hk19
          case hi19 => (simp only [List.getElem?_toArray, List.getElem?_cons_succ, List.getElem?_cons_zero]; rfl)
          case hq19 => exact fun _ _ _ h => h
          case hw19 => rfl
          case hy19 => (subst hSw; first | (go_simp; done) | (go_simp; with_reducible rfl))
          simp only [Act.put, List.setIfInBounds_toArray, List.set_cons_zero, List.set_cons_succ]
          refine' wpAnyH_take (i := 20) (oi := _) (v := .bool true) ?hi20 (by kernel_rfl) (by kernel_rfl) (by kernel_rfl) ?hq20 (Or.inl ⟨?hw20, fun w hSw => ?hy20⟩) rfl ?hk20
          case hi20 => (simp only [List.getElem?_toArray, List.getElem?_cons_succ, List.getElem?_cons_zero]; rfl)
          case hq20 => exact fun _ _ _ h => h
          case hw20 => rfl
          case hy20 => (subst hSw; first | (go_simp; done) | (go_simp; with_reducible rfl))
          simp only [Act.put, List.setIfInBounds_toArray, List.set_cons_zero, List.set_cons_succ]
          refine wpAnyH_done (by kernel_rfl) ?_ _
          go_wp2
          go_ret
          exact ⟨rfl, (hA.tr HIz.out.r.old).tr hC4⟩
end Go.Proofs.Ytjinbjbcfmhnmaa
