/- The document's answers on a log's notes: a file, what is done, how many steps, whether two lists are the same. -/
import Derived.Test.YtpiboaoifcajdaaNuB
namespace Go.Proofs.Ytpiboaoifcajdaa
open Go.RowKit Go.Shelf

theorem nts_at {W : World} {ao : Option Addr} {n c : Nat} {l : List Nt} (h : Nts W (.slice ao n c) l) {j : Nat} (hj : j < l.length) : ∃ b o, ao = some ⟨b, o, none⟩ ∧ NtAt W b (o + j * 4) l[j] := by
  obtain ⟨b, o, c', e, h2⟩ := h.cells j hj
  injection e with e1 e2 e3
  exact ⟨b, o, e1, h2⟩
set_option maxRecDepth 100000 in
set_option maxHeartbeats 1000000 in
theorem r9steps_any (v : Value) (l : List Nt) (w : World) (hS : Nts w v l) (hl : l.length ≤ 1000000) (hb : ∀ x ∈ l, x.a ≤ 1048576 ∧ 0 ≤ x.a) : Calls Try.prog 27 #[v] w (SaidN w (stL l.reverse)) := by
  obtain ⟨ao, c, rfl, _⟩ := hS.form
  obtain ⟨n, hn⟩ : ∃ n, l.length = n := ⟨_, rfl⟩
  rw [hn] at hS hl ⊢
  have HS := Lib.hid hS
  have HB := Lib.hid hb
  have HN := Lib.hid hn
  clear hS hb hn
  go_enter Try.func27, Try.ntmps27
  go_wp2
  go_loopw [3, 4] (fun v3 v4 wr => ∃ j : Nat, j ≤ n ∧ v4 = .int .i64 j ∧ v3 = .int .i64 (stL (l.take j).reverse) ∧ wr = w) (fun _ v4 _ => n - (intOf v4).toNat)
  case atStart => exact ⟨0, Nat.zero_le _, rfl, rfl, rfl⟩
  case round =>
    obtain ⟨j, hj, rfl, rfl, rfl⟩ := hrel
    by_cases hlt : j < n
    · have hd : decide (j < n) = true := decide_eq_true hlt
      have hjl : j < l.length := by have := HN.out; omega
      obtain ⟨b, o, e, hc⟩ := nts_at HS.out hjl
      subst e
      have hx := HB.out _ (List.getElem_mem hjl)
      have HT := Lib.hid (show (l.take (j + 1)).reverse = l[j] :: (l.take j).reverse by rw [List.take_succ_eq_append_getElem hjl, List.reverse_append]; rfl)
      have hs0 : 0 ≤ stL (l.take j).reverse ∧ stL (l.take j).reverse ≤ 1048577 := by
        obtain ⟨s0, s1, s2⟩ := st_spec (l.take j).reverse
        refine ⟨s0, ?_⟩
        rcases s2 with e | ⟨y, hy, _, e⟩
        · omega
        · have := HB.out y (List.mem_of_mem_take (List.mem_reverse.1 hy))
          omega
      obtain ⟨c0, c1, c2, c3⟩ := hc
      generalize l[j] = x at *
      have HST := Lib.hid (show stL (x :: (l.take j).reverse) = if x.k ≤ 3 ∧ stL (l.take j).reverse ≤ x.a then x.a + 1 else stL (l.take j).reverse from rfl)
      generalize stL (l.take j).reverse = m at *
      have i1 : (0 : Int) ≤ (j : Int) := by omega
      have i2 : (j : Int) < (n : Int) := by omega
      have kw : IntKind.i64.wrap ((j : Int) + 1) = (j : Int) + 1 := IntWalk.i64_in _ (by omega)
      have ka : IntKind.i64.wrap (x.a + 1) = x.a + 1 := IntWalk.i64_in _ (by omega)
      have HM := Lib.hid (fit_meas j n hlt)
      have HLT := Lib.hid hlt
      clear hj hlt hx hs0 hjl
      by_cases h1 : x.k ≤ 3
      · have d1 : decide (x.k ≤ 3) = true := decide_eq_true h1
        by_cases h2 : m ≤ x.a
        · have d2 : decide (m ≤ x.a) = true := decide_eq_true h2
          have HX := Lib.hid (HST.out.trans (if_pos ⟨h1, h2⟩))
          clear h1 h2
          go_wp2
          go_roundw
          case rel => exact ⟨j + 1, HLT.out, by go_num, by rw [HT.out, HX.out], by first | rfl | trivial⟩
          case measure => exact HM.out
        · have d2 : decide (m ≤ x.a) = false := decide_eq_false h2
          have HX := Lib.hid (HST.out.trans (if_neg (fun e => h2 e.2)))
          clear h1 h2
          go_wp2
          go_roundw
          case rel => exact ⟨j + 1, HLT.out, by go_num, by rw [HT.out, HX.out], by first | rfl | trivial⟩
          case measure => exact HM.out
      · have d1 : decide (x.k ≤ 3) = false := decide_eq_false h1
        have HX := Lib.hid (HST.out.trans (if_neg (fun e => h1 e.1)))
        clear h1
        go_wp2
        go_roundw
        case rel => exact ⟨j + 1, HLT.out, by go_num, by rw [HT.out, HX.out], by first | rfl | trivial⟩
        case measure => exact HM.out
    · obtain rfl : j = n := by omega
      have hd : decide (j < j) = false := decide_eq_false (by omega)
      have HR := Lib.hid (show stL (l.take j).reverse = stL l.reverse by rw [List.take_of_length_le (by have := HN.out; omega)])
      clear hj hlt
      go_wp2
      go_ret
      exact ⟨by rw [← HR.out]; rfl, Chg.refl _ _⟩
theorem fileOf_app (k a b : Int) : ∀ (p r : List Nt), fileOf p k a b = none → fileOf (p ++ r) k a b = fileOf r k a b
  | [], r, _ => rfl
  | x :: p, r, h => by
    unfold fileOf at h
    rw [List.cons_append]
    show (if _ then _ else _) = _
    by_cases e : x.k = k ∧ x.a = a ∧ x.b = b
    · rw [if_pos e] at h; cases h
    · rw [if_neg e] at h ⊢
      exact fileOf_app k a b p r h
def GaveFl (w : World) (o : Option Int) (e : Ending) (w' : World) : Prop := e = .returned (FileV o) ∧ w' = w
set_option maxRecDepth 100000 in
set_option maxHeartbeats 1000000 in
theorem r9file_any (v : Value) (l : List Nt) (k a b : Int) (w : World) (hS : Nts w v l) (hl : l.length ≤ 1000000) : Calls Try.prog 24 #[v, .int .i64 k, .int .i64 a, .int .i64 b] w (GaveFl w (fileOf l.reverse k a b)) := by
  obtain ⟨ao, c, rfl, _⟩ := hS.form
  obtain ⟨n, hn⟩ : ∃ n, l.length = n := ⟨_, rfl⟩
  rw [hn] at hS hl ⊢
  have k1 : IntKind.i64.wrap ((n : Int) - 1) = (n : Int) - 1 := IntWalk.i64_in _ (by omega)
  have HS := Lib.hid hS
  have HN := Lib.hid hn
  clear hS hn
  go_enter Try.func24, Try.ntmps24
  go_wp2
  clear k1
  go_loopw [10] (fun v wr => ∃ j i, (i : Int) = (j : Nat) - 1 ∧ j ≤ n ∧ v = .int .i64 i ∧ fileOf (l.drop j).reverse k a b = none ∧ wr = w) (fun v _ => (intOf v + 1).toNat)
  case atStart => exact ⟨n, (n : Int) - 1, rfl, Nat.le_refl _, rfl, by rw [List.drop_eq_nil_of_le (by have := HN.out; omega)]; rfl, rfl⟩
  case round =>
    obtain ⟨j, i, hi, hj, rfl, hf, rfl⟩ := hrel
    by_cases hlt : 0 < j
    · obtain ⟨m, rfl⟩ : ∃ m, j = m + 1 := ⟨j - 1, by omega⟩
      obtain rfl : i = (m : Int) := by omega
      have hml : m < l.length := by have := HN.out; omega
      obtain ⟨bb, o, e, hc⟩ := nts_at HS.out hml
      subst e
      have e1 : (l.drop m).reverse = (l.drop (m + 1)).reverse ++ [l[m]] := by rw [List.drop_eq_getElem_cons hml, List.reverse_cons]
      have e2 : l.reverse = (l.drop (m + 1)).reverse ++ l[m] :: (l.take m).reverse := by
        conv => lhs; rw [← List.take_append_drop m l]
        rw [List.reverse_append, e1, List.append_assoc]
        rfl
      have HF1 := Lib.hid (show fileOf (l.drop m).reverse k a b = if l[m].k = k ∧ l[m].a = a ∧ l[m].b = b then some l[m].n else none by rw [e1, fileOf_app _ _ _ _ _ hf]; rfl)
      have HF2 := Lib.hid (show l[m].k = k ∧ l[m].a = a ∧ l[m].b = b → fileOf l.reverse k a b = some l[m].n from fun h => by rw [e2, fileOf_app _ _ _ _ _ hf]; exact if_pos h)
      obtain ⟨c0, c1, c2, c3⟩ := hc
      generalize l[m] = x at *
      have i1 : (0 : Int) ≤ (m : Int) := by omega
      have i2 : (m : Int) < (n : Int) := by omega
      have kw : IntKind.i64.wrap ((m : Int) - 1) = (m : Int) - 1 := IntWalk.i64_in _ (by omega)
      have HJ := Lib.hid hj
      clear hj hi hf e1 e2 hml hlt
      by_cases h1 : x.k = k
      · have d1 : (x.k == k) = true := beq_iff_eq.2 h1
        by_cases h2 : x.a = a
        · have d2 : (x.a == a) = true := beq_iff_eq.2 h2
          by_cases h3 : x.b = b
          · have d3 : (x.b == b) = true := beq_iff_eq.2 h3
            have HX := Lib.hid (HF2.out ⟨h1, h2, h3⟩)
            clear h1 h2 h3
            go_wp2
            go_ret2
            exact ⟨by rw [HX.out]; rfl, rfl⟩
          · have d3 : (x.b == b) = false := beq_eq_false_iff_ne.2 h3
            have HX := Lib.hid (HF1.out.trans (if_neg (fun e => h3 e.2.2)))
            clear h1 h2 h3
            go_wp2
            go_roundw
            case rel => exact ⟨m, (m : Int) - 1, rfl, by have := HJ.out; omega, rfl, HX.out, by first | rfl | trivial⟩
            case measure =>
              simp only [intOf]
              omega
        · have d2 : (x.a == a) = false := beq_eq_false_iff_ne.2 h2
          have HX := Lib.hid (HF1.out.trans (if_neg (fun e => h2 e.2.1)))
          clear h1 h2
          go_wp2
          go_roundw
          case rel => exact ⟨m, (m : Int) - 1, rfl, by have := HJ.out; omega, rfl, HX.out, by first | rfl | trivial⟩
          case measure =>
            simp only [intOf]
            omega
      · have d1 : (x.k == k) = false := beq_eq_false_iff_ne.2 h1
        have HX := Lib.hid (HF1.out.trans (if_neg (fun e => h1 e.1)))
        clear h1
        go_wp2
        go_roundw
        case rel => exact ⟨m, (m : Int) - 1, rfl, by have := HJ.out; omega, rfl, HX.out, by first | rfl | trivial⟩
        case measure =>
          simp only [intOf]
          omega
    · obtain rfl : j = 0 := by omega
      obtain rfl : i = -1 := by omega
      rw [List.drop_zero] at hf
      have HF := Lib.hid hf
      clear hf hj hi hlt
      go_wp2
      go_ret2
      exact ⟨by rw [HF.out]; rfl, rfl⟩
end Go.Proofs.Ytpiboaoifcajdaa
