/- The document's numbers: products. -/
import Derived.Test.YtjmlekdgipinfaaMp27
import Derived.Deep.OwnRows
namespace Go.Proofs.Ytjmlekdgipinfaa
open Go.RowKit Go.Shelf

/-- Digits in block gb, which may be written. -/
structure OutAt (w0 wr : World) (gb N : Nat) (o : List Nat) : Prop where
  len : o.length = N
  cell : ∀ j (h : j < o.length), wr.cell? ⟨gb, j, none⟩ = some (.int .u64 (o[j] : Int))
  fro : ∀ j, j < o.length → wr.frozen? ⟨gb, j, none⟩ = false
  ch : Chg (fun q => q = gb) w0 wr
theorem made_u64 (N j : Nat) (h : j < N) : (madeCells #[Value.int .u64 0] N)[j]? = some (.int .u64 0) := by
  unfold madeCells
  simp [h, Nat.mod_one]
theorem OutAt.start (w : World) (N : Nat) : OutAt (w.alloc (.cells (madeCells #[.int .u64 0] N) 148)) (w.alloc (.cells (madeCells #[.int .u64 0] N) 148)) w.heap.size N (List.replicate N 0) :=
  ⟨by simp, fun j h => by rw [List.length_replicate] at h; rw [List.getElem_replicate]; exact new_cell w _ _ (made_u64 N j h), fun j _ => new_frozen w _ _ _, Chg.refl _ _⟩
theorem OutAt.set {w0 wr : World} {gb N : Nat} {o : List Nat} (h : OutAt w0 wr gb N o) (k x : Nat) (hk : k < o.length) : OutAt w0 (wr.setCell ⟨gb, k, none⟩ (.int .u64 (x : Int))) gb N (o.set k x) := by
  refine ⟨by rw [List.length_set]; exact h.len, fun j hj => ?_, fun j hj => ?_, h.ch.setCell (p := ⟨gb, k, none⟩) (.inl rfl) _⟩
  · rw [List.length_set] at hj
    by_cases e : k = j
    · subst e
      rw [List.getElem_set_self]
      exact World.cell?_setCell_same' _ _ _ (by rw [h.cell k hk]; rfl)
    · rw [List.getElem_set_ne e, World.cell?_setCell_other _ _ _ _ (fun h => e (by injection h))]
      exact h.cell j hj
  · rw [List.length_set] at hj
    rw [World.frozen?_setCell]
    exact h.fro j hj
theorem OutAt.drew {w0 wr : World} {gb N : Nat} {o : List Nat} (h : OutAt w0 wr gb N o) : OutAt w0 wr.drew gb N o := ⟨h.len, h.cell, h.fro, h.ch.drew⟩
theorem OutAt.lu {w0 wr : World} {gb N : Nat} {o : List Nat} (h : OutAt w0 wr gb N o) (hN : N ≤ maxLen) : Lu wr (.slice (some ⟨gb, 0, none⟩) N N) o := by
  refine ⟨⟨_, _, by rw [List.length_map, h.len], by rw [List.length_map, h.len]; exact Nat.le_refl _, hN, fun e => by cases e⟩, fun j u hu => ?_⟩
  rw [List.getElem?_map] at hu
  have hj : j < o.length := by
    by_cases hj : j < o.length
    · exact hj
    · rw [List.getElem?_eq_none (by omega)] at hu; cases hu
  rw [List.getElem?_eq_getElem hj] at hu
  refine ⟨gb, 0, N, by rw [List.length_map, h.len], ?_⟩
  rw [Nat.zero_add, h.cell j hj]
  exact hu
theorem u64_mul (x y p : Nat) (h : x * y = p) (hp : p < 18446744073709551616) : IntKind.u64.wrap ((x : Int) * (y : Int)) = (p : Int) := by
  rw [← Int.natCast_mul, h]
  exact IntWalk.u64_in _ (by omega)
theorem i64_addN (x y p : Nat) (h : x + y = p) (hp : p < 1000000) : IntKind.i64.wrap ((x : Int) + (y : Int)) = (p : Int) := (IntWalk.i64_in _ (by omega)).trans (by omega)
set_option maxRecDepth 100000 in
set_option maxHeartbeats 8000000 in
theorem r12mul_any (u v : Value) (a b : Bool) (m n : Nat) (w : World) (hU : BigV w u a m) (hV : BigV w v b n) (hl : (dg m).length ≤ 10000) (hl2 : (dg n).length ≤ 10000) : Calls Try.prog 106 #[u, v] w (GaveBg w (a != b, m * n)) := by
  obtain ⟨us, rfl, hU⟩ := hU
  obtain ⟨vs, rfl, hV⟩ := hV
  obtain ⟨ao, ac, rfl⟩ := hU.form
  obtain ⟨bo, bc, rfl⟩ := hV.form
  obtain ⟨la, hla⟩ : ∃ x, (dg m).length = x := ⟨_, rfl⟩
  obtain ⟨lb, hlb⟩ : ∃ x, (dg n).length = x := ⟨_, rfl⟩
  rw [hla] at hU hl ⊢
  rw [hlb] at hV hl2 ⊢
  obtain ⟨x0, x1⟩ := b2_cells w (.bool a) (.slice ao la ac) 124
  obtain ⟨w1, hw1⟩ : ∃ X, w.alloc (.cells #[.bool a, .slice ao la ac] 124) = X := ⟨_, rfl⟩
  have g1 : Chg (fun _ => False) w w1 := by rw [← hw1]; exact (Chg.refl _ _).alloc _
  have s1 : w1.heap.size = w.heap.size + 1 := by rw [← hw1]; simp
  rw [hw1] at x0 x1
  obtain ⟨y0, y1⟩ := b2_cells w1 (.bool b) (.slice bo lb bc) 124
  obtain ⟨w2, hw2⟩ : ∃ X, w1.alloc (.cells #[.bool b, .slice bo lb bc] 124) = X := ⟨_, rfl⟩
  have g2 : Chg (fun _ => False) w1 w2 := by rw [← hw2]; exact (Chg.refl _ _).alloc _
  have s2 : w2.heap.size = w.heap.size + 2 := by rw [← hw2]; simp [s1]
  rw [hw2] at y0 y1
  obtain ⟨z0, z1⟩ := b2_cells w2 (.bool false) (.slice none 0 0) 124
  have f0 := new_frozen w2 #[.bool false, .slice none 0 0] 124 0
  have f1 := new_frozen w2 #[.bool false, .slice none 0 0] 124 1
  obtain ⟨w3, hw3⟩ : ∃ X, w2.alloc (.cells #[.bool false, .slice none 0 0] 124) = X := ⟨_, rfl⟩
  have g3 : Chg (fun _ => False) w2 w3 := by rw [← hw3]; exact (Chg.refl _ _).alloc _
  have s3 : w3.heap.size = w.heap.size + 3 := by rw [← hw3]; simp [s2]
  rw [hw3] at z0 z1 f0 f1
  rw [s2] at z0 z1 f0 f1
  rw [s1] at y0 y1
  obtain ⟨N, hN⟩ : ∃ N, la + lb + 1 = N := ⟨_, rfl⟩
  obtain ⟨w4, hw4⟩ : ∃ X, w3.alloc (.cells (madeCells #[.int .u64 0] N) 148) = X := ⟨_, rfl⟩
  have g4 : Chg (fun _ => False) w3 w4 := by rw [← hw4]; exact (Chg.refl _ _).alloc _
  have hO0 := OutAt.start w3 N
  rw [hw4, s3] at hO0
  have hmk := fun w => run_make_row' (P := Try.prog) 122 148 (.int .u64 0) 8 Try.underlying122 info_u64 rfl .i64 .i64 N (by omega) (by omega) w
  have t1 := i64_addN la lb (la + lb) rfl (by omega)
  have t2 : IntKind.i64.wrap (((la + lb : Nat) : Int) + 1) = (N : Int) := (IntWalk.i64_in _ (by omega)).trans (by omega)
  obtain ⟨lab, hlab⟩ : ∃ x, la + lb = x := ⟨_, rfl⟩
  rw [hlab] at t1 t2
  replace x0 := ((g2.tr g3).tr g4).cell x0 id
  replace x1 := ((g2.tr g3).tr g4).cell x1 id
  replace y0 := (g3.tr g4).cell y0 id
  replace y1 := (g3.tr g4).cell y1 id
  replace f0 := g4.frozen z0 f0 id
  replace f1 := g4.frozen z1 f1 id
  replace z0 := g4.cell z0 id
  replace z1 := g4.cell z1 id
  have HC3 := Lib.hid ((g1.tr (g2.tr g3)).tr g4)
  have HU := Lib.hid hU
  have HV := Lib.hid hV
  have HL := Lib.hid (And.intro hla (And.intro hlb (And.intro hl (And.intro hl2 (And.intro hN s3)))))
  have HW := Lib.hid (And.intro hw1 (And.intro hw2 (And.intro hw3 hw4)))
  have HO0 := Lib.hid hO0
  have HZ := Lib.hid (And.intro z0 (And.intro z1 (And.intro f0 f1)))
  have HX := Lib.hid (And.intro x0 (And.intro x1 (And.intro y0 y1)))
  clear g1 g2 g3 g4 s1 s2 s3 hU hV hl hl2 hla hlb hw1 hw2 hw3 hw4 hN hlab hO0 x0 x1 y0 y1 z0 z1 f0 f1
  go_enter Try.func106, Try.ntmps106
  go_wp2
  clear t1 t2
  rw [HW.out.1, HW.out.2.1, HW.out.2.2.1, HW.out.2.2.2]
  rw [show w.heap.size + 1 + 1 + 1 = w.heap.size + 3 from rfl, show w.heap.size + 1 + 1 = w.heap.size + 2 from rfl]
  obtain ⟨gb, hgb⟩ : ∃ g, w.heap.size + 3 = g := ⟨_, rfl⟩
  rw [hgb] at HO0 ⊢
  have HGB := Lib.hid hgb
  clear hgb HW hmk
  go_loopw [6] (fun v6 wr => ∃ (i : Nat) (o : List Nat), i ≤ la ∧ v6 = .int .i64 i ∧ OutAt w4 wr gb N o ∧ MulI (dg m) (dg n) o i 0 0) (fun v6 _ => la - (intOf v6).toNat)
  case atStart => exact ⟨0, _, Nat.zero_le _, rfl, HO0.out, by rw [← HL.out.2.2.2.2.1, ← HL.out.1, ← HL.out.2.1]; exact MulI.start _ _⟩
  case round =>
    obtain ⟨i, o, him, rfl, hO, hM⟩ := hrel
    obtain ⟨wo, rfl⟩ : ∃ wo : World, wo = wr := ⟨_, rfl⟩
    have HO := Lib.hid hO
    have HM := Lib.hid hM
    obtain ⟨x0, x1, y0, y1⟩ := HX.out
    replace x0 := hO.ch.cell x0 (fun e => by have h := HGB.out; have e2 : w.heap.size = gb := e; omega)
    replace x1 := hO.ch.cell x1 (fun e => by have h := HGB.out; have e2 : w.heap.size = gb := e; omega)
    replace y0 := hO.ch.cell y0 (fun e => by have h := HGB.out; have e2 : w.heap.size + 1 = gb := e; omega)
    replace y1 := hO.ch.cell y1 (fun e => by have h := HGB.out; have e2 : w.heap.size + 1 = gb := e; omega)
    by_cases ha : i < la
    · have d1 : decide (i < la) = true := decide_eq_true ha
      have HIM := Lib.hid ha
      clear ha him hO hM
      go_wp2
      go_loopw [7, 8] (fun v7 v8 wr => ∃ (k c : Nat) (o : List Nat), k ≤ lb ∧ v8 = .int .i64 k ∧ v7 = .int .u64 (c : Int) ∧ OutAt w4 wr gb N o ∧ MulI (dg m) (dg n) o i k c) (fun _ v8 _ => lb - (intOf v8).toNat)
      case atStart => exact ⟨0, 0, o, Nat.zero_le _, rfl, rfl, HO.out, HM.out⟩
      case round =>
        obtain ⟨k, c, o, hkm, rfl, rfl, hO, hM⟩ := hrel
        have HO := Lib.hid hO
        have HM := Lib.hid hM
        obtain ⟨x0, x1, y0, y1⟩ := HX.out
        replace x0 := hO.ch.cell x0 (fun e => by have h := HGB.out; have e2 : w.heap.size = gb := e; omega)
        replace x1 := hO.ch.cell x1 (fun e => by have h := HGB.out; have e2 : w.heap.size = gb := e; omega)
        replace y0 := hO.ch.cell y0 (fun e => by have h := HGB.out; have e2 : w.heap.size + 1 = gb := e; omega)
        replace y1 := hO.ch.cell y1 (fun e => by have h := HGB.out; have e2 : w.heap.size + 1 = gb := e; omega)
        by_cases hb : k < lb
        · have d2 : decide (k < lb) = true := decide_eq_true hb
          have HKM := Lib.hid hb
          have hal : i < (dg m).length := by rw [HL.out.1]; exact HIM.out
          have hbl : k < (dg n).length := by rw [HL.out.2.1]; exact hb
          have hol : i + k < o.length := by have := hO.len; have := HL.out; have := HIM.out; omega
          obtain ⟨b1, o1, e1, hx⟩ := HU.out.at hal
          subst e1
          obtain ⟨b2, o2, e2, hy⟩ := HV.out.at hbl
          subst e2
          have l1 : b1 < w.heap.size := cell_lt hx
          have l2 : b2 < w.heap.size := cell_lt hy
          replace hx := hO.ch.cell (HC3.out.cell hx id) (fun e => by have h := HGB.out; have e2 : b1 = gb := e; omega)
          replace hy := hO.ch.cell (HC3.out.cell hy id) (fun e => by have h := HGB.out; have e2 : b2 = gb := e; omega)
          have hz := hO.cell (i + k) hol
          have hzf := hO.fro (i + k) hol
          have HSTEP := Lib.hid (fun (s : Nat) (hs : o[i + k] + (dg m).getD i 0 * (dg n).getD k 0 + c = s) => hM.step (dg_dig m) (dg_dig n) hbl hol hs)
          have hgx : (dg m).getD i 0 = (dg m)[i] := by rw [List.getD_eq_getElem?_getD, List.getElem?_eq_getElem hal]; rfl
          have hgy : (dg n).getD k 0 = (dg n)[k] := by rw [List.getD_eq_getElem?_getD, List.getElem?_eq_getElem hbl]; rfl
          have bx := getD_dig (dg_dig m) i
          have bY := getD_dig (dg_dig n) k
          have bz := hM.dig _ (List.getElem_mem hol)
          have bc := hM.c1
          rw [hgx, hgy] at HSTEP
          rw [hgx] at bx
          rw [hgy] at bY
          have HSET := Lib.hid (fun x => hO.drew.set (i + k) x hol)
          generalize (dg m)[i] = x at *
          generalize (dg n)[k] = y at *
          generalize o[i + k] = z at *
          have hxy : x * y ≤ 65535 * 65535 := Nat.mul_le_mul (by omega) (by omega)
          obtain ⟨p, hp⟩ : ∃ p, x * y = p := ⟨_, rfl⟩
          rw [hp] at hxy
          obtain ⟨q, hq⟩ : ∃ q, z + p = q := ⟨_, rfl⟩
          obtain ⟨s, hs⟩ : ∃ s, q + c = s := ⟨_, rfl⟩
          have HST := Lib.hid (HSTEP.out s (by rw [hp]; omega))
          obtain ⟨t1, t2, t3, t4⟩ := dig_facts s (by omega)
          obtain ⟨d, hd⟩ : ∃ d, s % 65536 = d := ⟨_, rfl⟩
          obtain ⟨c', hc'⟩ : ∃ c', s / 65536 = c' := ⟨_, rfl⟩
          rw [hd] at t1 t3 HST
          rw [hc'] at t2 t4 HST
          have u2 := u64_add z p q hq (by omega)
          have u3 := u64_add q c s hs (by omega)
          obtain ⟨r, hr⟩ : ∃ r, i + k = r := ⟨_, rfl⟩
          have v1 := i64_addN i k r hr (by have := HL.out; have := HIM.out; omega)
          rw [hr] at hz hzf HST HSET
          have r1 : (0 : Int) ≤ (r : Int) := Int.natCast_nonneg r
          have r2 : (r : Int) < (N : Int) := by have := hO.len; omega
          have i1 : (0 : Int) ≤ (i : Int) := Int.natCast_nonneg i
          have i2 : (i : Int) < (la : Int) := Int.ofNat_lt.2 HIM.out
          have k1 : (0 : Int) ≤ (k : Int) := Int.natCast_nonneg k
          have k2 : (k : Int) < (lb : Int) := Int.ofNat_lt.2 hb
          have kw : IntKind.i64.wrap ((k : Int) + 1) = (k : Int) + 1 := IntWalk.i64_in _ (by have := HL.out; omega)
          have u1 := u64_mul x y p hp (by omega)
          clear hp hq hs hd hc' hr hal hbl hol l1 l2 hgx hgy bx bY bz bc hxy HSTEP hb hkm hO hM
          go_wp2
          go_region
          all_goals
            clear u1
            go_wp2
            go_roundw
            case rel => exact ⟨k + 1, c', o.set r d, HKM.out, congrArg (Value.int IntKind.i64) (Int.natCast_succ k).symm, rfl, HSET.out d, HST.out⟩
            case measure => exact fit_meas k lb HKM.out
        · have d2 : decide (k < lb) = false := decide_eq_false hb
          obtain rfl : lb = k := by omega
          have hol : i + lb < o.length := by have := hO.len; have := HL.out; have := HIM.out; omega
          have HROW := Lib.hid (show MulI (dg m) (dg n) (o.set (i + lb) c) (i + 1) 0 0 from by
            have h1 := HL.out.2.1
            have h2 : MulI (dg m) (dg n) o i (dg n).length c := by rw [h1]; exact hM
            have h3 := h2.row (by rw [HL.out.1]; exact HIM.out) (by rw [h1]; exact hol)
            rwa [h1] at h3)
          have HSET := Lib.hid (hO.set (i + lb) c hol)
          have hz := hO.cell (i + lb) hol
          have hzf := hO.fro (i + lb) hol
          obtain ⟨r, hr⟩ : ∃ r, i + lb = r := ⟨_, rfl⟩
          have v1 := i64_addN i lb r hr (by have := HL.out; have := HIM.out; omega)
          rw [hr] at HROW HSET hzf
          have hz2 : wr.cell? ⟨gb, r, none⟩ = some (.int .u64 (o[i + lb] : Int)) := by rw [← hr]; exact hz
          have r1 : (0 : Int) ≤ (r : Int) := Int.natCast_nonneg r
          have r2 : (r : Int) < (N : Int) := by have := hO.len; omega
          have kw : IntKind.i64.wrap ((i : Int) + 1) = (i : Int) + 1 := IntWalk.i64_in _ (by have := HL.out; have := HIM.out; omega)
          generalize o[i + lb] = z at *
          clear hz hr hol hb hkm hO hM
          go_wp2
          go_roundw
          case rel => exact ⟨i + 1, o.set r c, HIM.out, congrArg (Value.int IntKind.i64) (Int.natCast_succ i).symm, HSET.out, HROW.out⟩
          case measure => exact fit_meas i la HIM.out
    · have d1 : decide (i < la) = false := decide_eq_false ha
      obtain rfl : la = i := by omega
      have HVL := Lib.hid (show vl o = m * n from by
        have h1 := HL.out.1
        have h2 : MulI (dg m) (dg n) o (dg m).length 0 0 := by rw [h1]; exact hM
        have h3 := h2.done
        rwa [vl_dg, vl_dg] at h3)
      obtain ⟨z0, z1, f0, f1⟩ := HZ.out
      have hne : ¬ w.heap.size + 2 = gb := by have := HGB.out; omega
      replace f0 := hO.ch.frozen z0 f0 hne
      replace f1 := hO.ch.frozen z1 f1 hne
      replace z0 := hO.ch.cell z0 hne
      replace z1 := hO.ch.cell z1 hne
      have HNE := Lib.hid hne
      have HCW := Lib.hid (show Chg (fun _ => False) w wo from HC3.out.trans hO.ch (fun _ _ h => h) (fun q hq e => by have h1 := HGB.out; have e2 : q = gb := e; omega))
      have HLO := Lib.hid (hO.lu (by have := HL.out; unfold maxLen; omega))
      have HON := Lib.hid (show o.length ≤ 1000000 from by have := hO.len; have := HL.out; omega)
      have HDG := Lib.hid hM.dig
      cases a with
      | true =>
        cases b with
        | true =>
          have HKK := Lib.hid (show ∀ w', Chg (fun q => q = w.heap.size + 2) wo w' → (Chg (fun q => q = w.heap.size + 2) wo w' ∧ w'.cell? ⟨w.heap.size, 0, none⟩ = some (.bool true) ∧ w'.cell? ⟨w.heap.size + 1, 0, none⟩ = some (.bool true)) from fun w' h => ⟨h, h.cell x0 (by simp), h.cell y0 (by simp)⟩)
          have HCQ := Lib.hid (show ∀ w', Chg (fun _ => False) wo w' → Calls Try.prog 132 #[.slice (some ⟨gb, 0, none⟩) N N] w' (GaveLu w' (dg (m * n))) from fun w' h => by
            have h5 := r12short_any _ o w' (HLO.out.fr h) HDG.out HON.out
            rw [HVL.out] at h5
            exact h5)
          have HZZ := Lib.hid (And.intro z0 (And.intro z1 (And.intro f0 f1)))
          unfold GaveLu at HCQ
          clear ha him hO hM hne
          go_wp2
          go_region_held3 (fun w' => (Chg (fun q => q = w.heap.size + 2) wo w' ∧ w'.cell? ⟨w.heap.size, 0, none⟩ = some (.bool true) ∧ w'.cell? ⟨w.heap.size + 1, 0, none⟩ = some (.bool true))) ((refine HKK.out _ ?_; repeat (first | (with_reducible exact Chg.refl _ _) | (with_reducible refine chg_drewG ?_) | (with_reducible refine chg_setG ?_) | (with_reducible refine chg_trG ?_ hC5)))) (first
            | (go_at_call 132
               (with_reducible refine (HCQ.out _ (Chg.refl _ _).drew).mono ?_)
               rintro e9 w5 ⟨a5, c5, rfl, hS5, hC5⟩
               have hC5' := (Chg.refl (fun _ => False) wo).drew.tr hC5
               have z0' := hC5'.cell HZZ.out.1 id
               have z1' := hC5'.cell HZZ.out.2.1 id
               have f0' := hC5'.frozen HZZ.out.1 HZZ.out.2.2.1 id
               have f1' := hC5'.frozen HZZ.out.2.1 HZZ.out.2.2.2 id))
          all_goals
            have HS5 := Lib.hid hS5
            have HC5 := Lib.hid hC5'
            obtain ⟨g0, g1⟩ := b2_set (.bool false) (.slice a5 (dg (m * n)).length c5) z0' z1'
            clear hS5 hC5 hC5'
            go_wp2
            simp [bodyPost, results, Try.results106, go_sem, g0, g1]
            exact ⟨_, rfl, big_leave (b := false) (HCW.out.tr HC5.out) (by omega) z0' z1' HS5.out (by first | exact .inl rfl | exact .inr rfl)⟩
        | false =>
          have HKK := Lib.hid (show ∀ w', Chg (fun q => q = w.heap.size + 2) wo w' → (Chg (fun q => q = w.heap.size + 2) wo w' ∧ w'.cell? ⟨w.heap.size, 0, none⟩ = some (.bool true) ∧ w'.cell? ⟨w.heap.size + 1, 0, none⟩ = some (.bool false)) from fun w' h => ⟨h, h.cell x0 (by simp), h.cell y0 (by simp)⟩)
          have HCQ := Lib.hid (show ∀ w', Chg (fun _ => False) wo w' → Calls Try.prog 132 #[.slice (some ⟨gb, 0, none⟩) N N] w' (GaveLu w' (dg (m * n))) from fun w' h => by
            have h5 := r12short_any _ o w' (HLO.out.fr h) HDG.out HON.out
            rw [HVL.out] at h5
            exact h5)
          have HZZ := Lib.hid (And.intro z0 (And.intro z1 (And.intro f0 f1)))
          unfold GaveLu at HCQ
          clear ha him hO hM hne
          go_wp2
          go_region_held3 (fun w' => (Chg (fun q => q = w.heap.size + 2) wo w' ∧ w'.cell? ⟨w.heap.size, 0, none⟩ = some (.bool true) ∧ w'.cell? ⟨w.heap.size + 1, 0, none⟩ = some (.bool false))) ((refine HKK.out _ ?_; repeat (first | (with_reducible exact Chg.refl _ _) | (with_reducible refine chg_drewG ?_) | (with_reducible refine chg_setG ?_) | (with_reducible refine chg_trG ?_ hC5)))) (first
            | (go_at_call 132
               (with_reducible refine (HCQ.out _ (Chg.refl _ _).drew).mono ?_)
               rintro e9 w5 ⟨a5, c5, rfl, hS5, hC5⟩
               have hC5' := (Chg.refl (fun _ => False) wo).drew.tr hC5
               have z0' := hC5'.cell HZZ.out.1 id
               have z1' := hC5'.cell HZZ.out.2.1 id
               have f0' := hC5'.frozen HZZ.out.1 HZZ.out.2.2.1 id
               have f1' := hC5'.frozen HZZ.out.2.1 HZZ.out.2.2.2 id))
          all_goals
            have HS5 := Lib.hid hS5
            have HC5 := Lib.hid hC5'
            obtain ⟨g0, g1⟩ := b2_set (.bool true) (.slice a5 (dg (m * n)).length c5) z0' z1'
            clear hS5 hC5 hC5'
            go_wp2
            simp [bodyPost, results, Try.results106, go_sem, g0, g1]
            exact ⟨_, rfl, big_leave (b := true) (HCW.out.tr HC5.out) (by omega) z0' z1' HS5.out (by first | exact .inl rfl | exact .inr rfl)⟩
      | false =>
        cases b with
        | true =>
          have HKK := Lib.hid (show ∀ w', Chg (fun q => q = w.heap.size + 2) wo w' → (Chg (fun q => q = w.heap.size + 2) wo w' ∧ w'.cell? ⟨w.heap.size, 0, none⟩ = some (.bool false) ∧ w'.cell? ⟨w.heap.size + 1, 0, none⟩ = some (.bool true)) from fun w' h => ⟨h, h.cell x0 (by simp), h.cell y0 (by simp)⟩)
          have HCQ := Lib.hid (show ∀ w', Chg (fun _ => False) wo w' → Calls Try.prog 132 #[.slice (some ⟨gb, 0, none⟩) N N] w' (GaveLu w' (dg (m * n))) from fun w' h => by
            have h5 := r12short_any _ o w' (HLO.out.fr h) HDG.out HON.out
            rw [HVL.out] at h5
            exact h5)
          have HZZ := Lib.hid (And.intro z0 (And.intro z1 (And.intro f0 f1)))
          unfold GaveLu at HCQ
          clear ha him hO hM hne
          go_wp2
          go_region_held3 (fun w' => (Chg (fun q => q = w.heap.size + 2) wo w' ∧ w'.cell? ⟨w.heap.size, 0, none⟩ = some (.bool false) ∧ w'.cell? ⟨w.heap.size + 1, 0, none⟩ = some (.bool true))) ((refine HKK.out _ ?_; repeat (first | (with_reducible exact Chg.refl _ _) | (with_reducible refine chg_drewG ?_) | (with_reducible refine chg_setG ?_) | (with_reducible refine chg_trG ?_ hC5)))) (first
            | (go_at_call 132
               (with_reducible refine (HCQ.out _ (Chg.refl _ _).drew).mono ?_)
               rintro e9 w5 ⟨a5, c5, rfl, hS5, hC5⟩
               have hC5' := (Chg.refl (fun _ => False) wo).drew.tr hC5
               have z0' := hC5'.cell HZZ.out.1 id
               have z1' := hC5'.cell HZZ.out.2.1 id
               have f0' := hC5'.frozen HZZ.out.1 HZZ.out.2.2.1 id
               have f1' := hC5'.frozen HZZ.out.2.1 HZZ.out.2.2.2 id))
          all_goals
            have HS5 := Lib.hid hS5
            have HC5 := Lib.hid hC5'
            obtain ⟨g0, g1⟩ := b2_set (.bool true) (.slice a5 (dg (m * n)).length c5) z0' z1'
            clear hS5 hC5 hC5'
            go_wp2
            simp [bodyPost, results, Try.results106, go_sem, g0, g1]
            exact ⟨_, rfl, big_leave (b := true) (HCW.out.tr HC5.out) (by omega) z0' z1' HS5.out (by first | exact .inl rfl | exact .inr rfl)⟩
        | false =>
          have HKK := Lib.hid (show ∀ w', Chg (fun q => q = w.heap.size + 2) wo w' → (Chg (fun q => q = w.heap.size + 2) wo w' ∧ w'.cell? ⟨w.heap.size, 0, none⟩ = some (.bool false) ∧ w'.cell? ⟨w.heap.size + 1, 0, none⟩ = some (.bool false)) from fun w' h => ⟨h, h.cell x0 (by simp), h.cell y0 (by simp)⟩)
          have HCQ := Lib.hid (show ∀ w', Chg (fun _ => False) wo w' → Calls Try.prog 132 #[.slice (some ⟨gb, 0, none⟩) N N] w' (GaveLu w' (dg (m * n))) from fun w' h => by
            have h5 := r12short_any _ o w' (HLO.out.fr h) HDG.out HON.out
            rw [HVL.out] at h5
            exact h5)
          have HZZ := Lib.hid (And.intro z0 (And.intro z1 (And.intro f0 f1)))
          unfold GaveLu at HCQ
          clear ha him hO hM hne
          go_wp2
          go_region_held3 (fun w' => (Chg (fun q => q = w.heap.size + 2) wo w' ∧ w'.cell? ⟨w.heap.size, 0, none⟩ = some (.bool false) ∧ w'.cell? ⟨w.heap.size + 1, 0, none⟩ = some (.bool false))) ((refine HKK.out _ ?_; repeat (first | (with_reducible exact Chg.refl _ _) | (with_reducible refine chg_drewG ?_) | (with_reducible refine chg_setG ?_) | (with_reducible refine chg_trG ?_ hC5)))) (first
            | (go_at_call 132
               (with_reducible refine (HCQ.out _ (Chg.refl _ _).drew).mono ?_)
               rintro e9 w5 ⟨a5, c5, rfl, hS5, hC5⟩
               have hC5' := (Chg.refl (fun _ => False) wo).drew.tr hC5
               have z0' := hC5'.cell HZZ.out.1 id
               have z1' := hC5'.cell HZZ.out.2.1 id
               have f0' := hC5'.frozen HZZ.out.1 HZZ.out.2.2.1 id
               have f1' := hC5'.frozen HZZ.out.2.1 HZZ.out.2.2.2 id))
          all_goals
            have HS5 := Lib.hid hS5
            have HC5 := Lib.hid hC5'
            obtain ⟨g0, g1⟩ := b2_set (.bool false) (.slice a5 (dg (m * n)).length c5) z0' z1'
            clear hS5 hC5 hC5'
            go_wp2
            simp [bodyPost, results, Try.results106, go_sem, g0, g1]
            exact ⟨_, rfl, big_leave (b := false) (HCW.out.tr HC5.out) (by omega) z0' z1' HS5.out (by first | exact .inl rfl | exact .inr rfl)⟩
end Go.Proofs.Ytjmlekdgipinfaa
