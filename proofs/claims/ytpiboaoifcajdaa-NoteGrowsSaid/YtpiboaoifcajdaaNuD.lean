/- The document's Done, Same, and Notes. -/
import Derived.Test.YtpiboaoifcajdaaNuC
import Derived.Test.YtpiboaoifcajdaaNtV
namespace Go.Proofs.Ytpiboaoifcajdaa
open Go.RowKit Go.Shelf

theorem dn_le (st : Int) : ∀ l : List Nt, dnL st l ≤ l.length
  | [] => Nat.le_refl _
  | x :: r => by
    have := dn_le st r
    unfold dnL
    rw [List.length_cons]
    split <;> omega
/-- Is that a tile of the place of x? -/
def pQ (x y : Nt) : Bool := decide (y.k = 2 ∧ y.a = x.a ∧ y.b = x.b)
theorem dn_cons (st : Int) (x : Nt) (r : List Nt) : dnL st (x :: r) = dnL st r + (if x.k = 2 ∧ x.a = st ∧ r.any (pQ x) = false then 1 else 0) := rfl
set_option maxRecDepth 100000 in
set_option maxHeartbeats 4000000 in
theorem r9done_any (v : Value) (l : List Nt) (st : Int) (w : World) (hS : Nts w v l) (hl : l.length ≤ 1000000) : Calls Try.prog 25 #[v, .int .i64 st] w (SaidN w (dnL st l.reverse)) := by
  obtain ⟨ao, c, rfl, _⟩ := hS.form
  obtain ⟨n, hn⟩ : ∃ n, l.length = n := ⟨_, rfl⟩
  rw [hn] at hS hl ⊢
  have HS := Lib.hid hS
  have HN := Lib.hid hn
  have HLL := Lib.hid hl
  clear hS hn hl
  go_enter Try.func25, Try.ntmps25
  go_wp2
  go_loopw [5, 6] (fun v5 v6 wr => ∃ i : Nat, i ≤ n ∧ v6 = .int .i64 i ∧ v5 = .int .i64 (dnL st (l.take i).reverse : Nat) ∧ Chg (fun _ => False) w wr) (fun _ v6 _ => n - (intOf v6).toNat)
  case atStart => exact ⟨0, Nat.zero_le _, rfl, rfl, Chg.refl _ _⟩
  case round =>
    obtain ⟨i, hi, rfl, rfl, hC⟩ := hrel
    obtain ⟨wo, rfl⟩ : ∃ wo : World, wo = wr := ⟨_, rfl⟩
    have HCO := Lib.hid hC
    by_cases hlt : i < n
    · have hd : decide (i < n) = true := decide_eq_true hlt
      have HLT := Lib.hid hlt
      have hil : i < l.length := by have := HN.out; omega
      obtain ⟨b, o, e, hx⟩ := nts_at (HS.out.fr hC) hil
      subst e
      have HT := Lib.hid (show (l.take (i + 1)).reverse = l[i] :: (l.take i).reverse by rw [List.take_succ_eq_append_getElem hil, List.reverse_append]; rfl)
      obtain ⟨x, hxe⟩ : ∃ x, l[i] = x := ⟨_, rfl⟩
      rw [hxe] at hx HT
      obtain ⟨x0, x1, x2, x3⟩ := hx
      obtain ⟨D, hD⟩ : ∃ D, dnL st (l.take i).reverse = D := ⟨_, rfl⟩
      have hDb : D ≤ 1000000 := by
        have h1 := dn_le st (l.take i).reverse
        rw [hD, List.length_reverse, List.length_take] at h1
        have := HLL.out
        omega
      have HD := Lib.hid hD
      have HDB := Lib.hid hDb
      rw [hD]
      have i1 : (0 : Int) ≤ (i : Int) := Int.natCast_nonneg i
      have i2 : (i : Int) < (n : Int) := Int.ofNat_lt.2 hlt
      clear hlt hi hil hxe hD hDb hC
      go_wp2
      go_loopw [7, 8] (fun v7 v8 wq => ∃ k : Nat, k ≤ i ∧ v8 = .int .i64 k ∧ v7 = .bool ((l.take k).any (pQ x)) ∧ Chg (fun _ => False) wo wq) (fun _ v8 _ => i - (intOf v8).toNat)
      case atStart => exact ⟨0, Nat.zero_le _, rfl, rfl, Chg.refl _ _⟩
      case round =>
        obtain ⟨k, hk, rfl, rfl, hC⟩ := hrel
        have HC := Lib.hid (HCO.out.tr hC)
        have HCI := Lib.hid hC
        replace x0 := hC.cell x0 id
        replace x1 := hC.cell x1 id
        replace x2 := hC.cell x2 id
        replace x3 := hC.cell x3 id
        clear hC
        by_cases hlt : k < i
        · have hd2 : decide (k < i) = true := decide_eq_true hlt
          have HLK := Lib.hid hlt
          have hkl : k < l.length := by have := HN.out; have := HLT.out; omega
          obtain ⟨b2, o2, e, hy⟩ := nts_at (HS.out.fr HC.out) hkl
          injection e with e
          injection e with e1 e2
          subst e1
          subst e2
          have HNX := Lib.hid (show (l.take (k + 1)).any (pQ x) = ((l.take k).any (pQ x) || pQ x l[k]) by rw [List.take_succ_eq_append_getElem hkl, List.any_append]; simp)
          obtain ⟨y, hye⟩ : ∃ y, l[k] = y := ⟨_, rfl⟩
          rw [hye] at hy HNX
          obtain ⟨y0, y1, y2, y3⟩ := hy
          have k1 : (0 : Int) ≤ (k : Int) := Int.natCast_nonneg k
          have k2 : (k : Int) < (n : Int) := by have := HLT.out; omega
          have kw : IntKind.i64.wrap ((k : Int) + 1) = (k : Int) + 1 := IntWalk.i64_in _ (by have := HLT.out; have := HLL.out; omega)
          clear hlt hk hkl hye
          generalize (l.take k).any (pQ x) = ag at *
          by_cases h1 : y.k = 2
          · have d1 : (y.k == 2) = true := beq_iff_eq.2 h1
            by_cases h2 : y.a = x.a
            · have d2 : (y.a == x.a) = true := beq_iff_eq.2 h2
              by_cases h3 : y.b = x.b
              · have d3 : (y.b == x.b) = true := beq_iff_eq.2 h3
                have h9 : pQ x y = true := decide_eq_true ⟨h1, h2, h3⟩
                rw [h9, Bool.or_true] at HNX
                clear h1 h2 h3 h9
                go_wp2
                go_quiet (fail)
                go_wp2
                go_roundw
                case rel => exact ⟨k + 1, HLK.out, by go_num, by rw [HNX.out], HCI.out.drewN _⟩
                case measure => exact fit_meas k i HLK.out
              · have d3 : (y.b == x.b) = false := beq_eq_false_iff_ne.2 h3
                have h9 : pQ x y = false := decide_eq_false (fun h => h3 h.2.2)
                rw [h9, Bool.or_false] at HNX
                clear h1 h2 h3 h9
                go_wp2
                go_quiet (fail)
                go_wp2
                go_roundw
                case rel => exact ⟨k + 1, HLK.out, by go_num, by rw [HNX.out], HCI.out.drewN _⟩
                case measure => exact fit_meas k i HLK.out
            · have d2 : (y.a == x.a) = false := beq_eq_false_iff_ne.2 h2
              have h9 : pQ x y = false := decide_eq_false (fun h => h2 h.2.1)
              rw [h9, Bool.or_false] at HNX
              clear h1 h2 h9
              go_wp2
              go_quiet (fail)
              go_wp2
              go_roundw
              case rel => exact ⟨k + 1, HLK.out, by go_num, by rw [HNX.out], HCI.out.drewN _⟩
              case measure => exact fit_meas k i HLK.out
          · have d1 : (y.k == 2) = false := beq_eq_false_iff_ne.2 h1
            have h9 : pQ x y = false := decide_eq_false (fun h => h1 h.1)
            rw [h9, Bool.or_false] at HNX
            clear h1 h9
            go_wp2
            go_quiet (fail)
            go_wp2
            go_roundw
            case rel => exact ⟨k + 1, HLK.out, by go_num, by rw [HNX.out], HCI.out.drewN _⟩
            case measure => exact fit_meas k i HLK.out
        · obtain rfl : k = i := by omega
          have hd2 : decide (k < k) = false := decide_eq_false hlt
          have HAG := Lib.hid (show (l.take k).reverse.any (pQ x) = (l.take k).any (pQ x) from List.any_reverse)
          have kw : IntKind.i64.wrap ((k : Int) + 1) = (k : Int) + 1 := IntWalk.i64_in _ (by have := HLT.out; have := HLL.out; omega)
          have dw : IntKind.i64.wrap ((D : Int) + 1) = (D : Int) + 1 := IntWalk.i64_in _ (by have := HDB.out; omega)
          have HDX := Lib.hid (show dnL st (x :: (l.take k).reverse) = D + (if x.k = 2 ∧ x.a = st ∧ (l.take k).any (pQ x) = false then 1 else 0) by rw [dn_cons, HD.out, HAG.out])
          clear hlt hk
          generalize (l.take k).any (pQ x) = ag at *
          obtain ⟨i, hi⟩ : ∃ i, i = k := ⟨_, rfl⟩
          subst hi
          by_cases h1 : x.k = 2
          · have d1 : (x.k == 2) = true := beq_iff_eq.2 h1
            by_cases h2 : x.a = st
            · have d2 : (x.a == st) = true := beq_iff_eq.2 h2
              cases ag with
              | true =>
                have HDN := Lib.hid (show dnL st (x :: (l.take i).reverse) = D by rw [HDX.out, if_neg (by simp)]; rfl)
                clear h1 h2
                go_wp2
                go_roundw
                case rel => exact ⟨i + 1, HLT.out, by go_num, by rw [HT.out, HDN.out], HC.out⟩
                case measure => exact fit_meas i n HLT.out
              | false =>
                have HDN := Lib.hid (show dnL st (x :: (l.take i).reverse) = D + 1 by rw [HDX.out, if_pos ⟨h1, h2, rfl⟩])
                clear h1 h2
                go_wp2
                go_roundw
                case rel => exact ⟨i + 1, HLT.out, by go_num, by rw [HT.out, HDN.out]; go_num, HC.out⟩
                case measure => exact fit_meas i n HLT.out
            · have d2 : (x.a == st) = false := beq_eq_false_iff_ne.2 h2
              have HDN := Lib.hid (show dnL st (x :: (l.take i).reverse) = D by rw [HDX.out, if_neg (fun h => h2 h.2.1)]; rfl)
              clear h1 h2
              go_wp2
              go_roundw
              case rel => exact ⟨i + 1, HLT.out, by go_num, by rw [HT.out, HDN.out], HC.out⟩
              case measure => exact fit_meas i n HLT.out
          · have d1 : (x.k == 2) = false := beq_eq_false_iff_ne.2 h1
            have HDN := Lib.hid (show dnL st (x :: (l.take i).reverse) = D by rw [HDX.out, if_neg (fun h => h1 h.1)]; rfl)
            clear h1
            go_wp2
            go_roundw
            case rel => exact ⟨i + 1, HLT.out, by go_num, by rw [HT.out, HDN.out], HC.out⟩
            case measure => exact fit_meas i n HLT.out
    · obtain rfl : i = n := by omega
      have hd : decide (i < i) = false := decide_eq_false hlt
      have HR := Lib.hid (show dnL st (l.take i).reverse = dnL st l.reverse by rw [List.take_of_length_le (by have := HN.out; omega)])
      clear hi hlt hC
      go_wp2
      go_ret
      exact ⟨by rw [← HR.out]; rfl, HCO.out⟩
theorem note_neq (x : Nt) (w : World) : (binOp .neq 23 (.agg #[.int .i64 x.k, .int .i64 x.a, .int .i64 x.b, .int .i64 x.n]) (.agg #[.int .i64 x.k, .int .i64 x.a, .int .i64 x.b, .int .i64 x.n])).run Try.prog w = .ok (.bool false) w := by
  go_simp
set_option maxRecDepth 100000 in
set_option maxHeartbeats 1000000 in
theorem r9same_eq (u v : Value) (l : List Nt) (w : World) (hU : Nts w u l) (hV : Nts w v l) (hl : l.length ≤ 1000000) : Calls Try.prog 22 #[u, v] w (GaveBo w true) := by
  obtain ⟨ao, c, rfl, _⟩ := hU.form
  obtain ⟨bo, d, rfl, _⟩ := hV.form
  obtain ⟨n, hn⟩ : ∃ n, l.length = n := ⟨_, rfl⟩
  rw [hn] at hU hV hl ⊢
  have HU := Lib.hid hU
  have HV := Lib.hid hV
  have HN := Lib.hid hn
  have HLL := Lib.hid hl
  have e0 : ((n : Int) != (n : Int)) = false := by simp
  have hneq := note_neq
  clear hU hV hn hl
  go_enter Try.func22, Try.ntmps22
  go_wp2
  clear e0
  go_loopw [5] (fun v wr => ∃ i : Nat, i ≤ n ∧ v = .int .i64 i ∧ Chg (fun _ => False) w wr) (fun v _ => n - (intOf v).toNat)
  case atStart => exact ⟨0, Nat.zero_le _, rfl, Chg.refl _ _⟩
  case round =>
    obtain ⟨i, hi, rfl, hC⟩ := hrel
    have HC := Lib.hid hC
    by_cases hlt : i < n
    · have hd : decide (i < n) = true := decide_eq_true hlt
      have HLT := Lib.hid hlt
      have hil : i < l.length := by have := HN.out; omega
      obtain ⟨b, o, e, hx⟩ := nts_at (HU.out.fr hC) hil
      subst e
      obtain ⟨b2, o2, e, hy⟩ := nts_at (HV.out.fr hC) hil
      subst e
      obtain ⟨x0, x1, x2, x3⟩ := hx
      obtain ⟨y0, y1, y2, y3⟩ := hy
      generalize l[i] = x at *
      have i1 : (0 : Int) ≤ (i : Int) := Int.natCast_nonneg i
      have i2 : (i : Int) < (n : Int) := Int.ofNat_lt.2 hlt
      have kw : IntKind.i64.wrap ((i : Int) + 1) = (i : Int) + 1 := IntWalk.i64_in _ (by have := HLT.out; have := HLL.out; omega)
      clear hlt hi hil hC
      go_wp2
      go_region
      all_goals
        go_wp2
        go_roundw
        case rel => exact ⟨i + 1, HLT.out, congrArg (Value.int IntKind.i64) (Int.natCast_succ i).symm, HC.out.drew⟩
        case measure => exact fit_meas i n HLT.out
    · have hd : decide (i < n) = false := decide_eq_false hlt
      clear hlt hi hC
      go_wp2
      go_ret
      exact ⟨rfl, HC.out⟩
end Go.Proofs.Ytpiboaoifcajdaa
