/- fold: rows. -/
import Derived.Test.YtjmlekdgipinfaaMt34
namespace Go.Proofs.Ytjmlekdgipinfaa
open Go.RowKit Go.Shelf

def GaveRw (w : World) (a b : Int) (e : Ending) (w' : World) : Prop := e = .returned (.tuple #[.int .i64 a, .int .i64 b]) ∧ Chg (fun _ => False) w w'
theorem prod_bd {s : List Int} (hsh : shB s = true) (j : Nat) : 0 ≤ prodL (s.take j) ∧ prodL (s.take j) ≤ 281474976710656 := by
  have h := shB_iff.1 hsh
  have h1 : ∀ l ∈ s.take j, 0 ≤ l ∧ l ≤ 4096 := fun l hl => h.2.1 l (List.mem_of_mem_take hl)
  have h2 := prodL_le _ h1
  have h3 : (s.take j).length ≤ 4 := by rw [List.length_take]; omega
  refine ⟨prodL_nonneg _ (fun l hl => (h1 l hl).1), Int.le_trans h2 ?_⟩
  have : (4096 : Int) ^ (s.take j).length ≤ 4096 ^ 4 := by
    generalize (s.take j).length = k at h3
    rcases k with _ | _ | _ | _ | _ | k
    · decide
    · decide
    · decide
    · decide
    · decide
    · omega
  exact Int.le_trans this (by decide)
set_option maxRecDepth 100000 in
set_option maxHeartbeats 1000000 in
theorem rows_any (v : Value) (s : List Int) (w : World) (hS : Ls w v s) : Calls Try.prog 29 #[v] w (GaveRw w (manyN s) (longN s)) := by
  obtain ⟨ao, c, rfl, _⟩ := hS.form
  have hca := count_any _ _ _ hS
  unfold GaveC at hca
  have hlen := hS.len
  cases hsh : shB s with
  | false =>
    rw [cntE_not hsh, cntN_not hsh] at hca
    have HR := Lib.hid (show manyN s = 0 ∧ longN s = 0 by unfold manyN longN; rw [hsh]; exact ⟨rfl, rfl⟩)
    clear hsh hS hlen
    go_enter Try.func29, Try.ntmps29
    go_wp2_with fail
    refine hca.mono ?_
    clear hca
    rintro e9 w1 ⟨rfl, rfl⟩
    go_wp2
    go_ret2
    exact ⟨by rw [HR.out.1, HR.out.2]; rfl, Chg.refl _ _⟩
  | true =>
    rw [cntE_ok hsh, cntN_ok hsh] at hca
    obtain ⟨n, hn⟩ : ∃ n, s.length = n := ⟨_, rfl⟩
    rw [hn] at hS hca ⊢
    have hn4 : n ≤ 4 := by have := (shB_iff.1 hsh).1; omega
    have HS := Lib.hid hS
    have HN := Lib.hid hn
    have HSH := Lib.hid hsh
    have k1 : IntKind.i64.wrap ((n : Int) - 1) = (n : Int) - 1 := IntWalk.i64_in _ (by omega)
    clear hsh hS hn hlen
    go_enter Try.func29, Try.ntmps29
    go_wp2_with fail
    refine hca.mono ?_
    clear hca
    rintro e9 w1 ⟨rfl, rfl⟩
    go_wp2
    go_loopw [2, 3, 17] (fun v2 v3 v17 wr => ∃ j : Nat, j ≤ n ∧ v17 = .int .i64 j ∧ (((j < n ∨ n = 0) ∧ v2 = .int .i64 (prodL (s.take j)) ∧ v3 = .int .i64 1) ∨ (j = n ∧ 0 < n ∧ v2 = .int .i64 (prodL s.dropLast) ∧ v3 = .int .i64 (s.getLastD 1))) ∧ Chg (fun _ => False) w1 wr) (fun _ _ v17 _ => n - (intOf v17).toNat)
    case atStart => exact ⟨0, Nat.zero_le _, rfl, .inl ⟨by omega, rfl, rfl⟩, Chg.refl _ _⟩
    case round =>
      obtain ⟨j, hj, rfl, hdis, hC⟩ := hrel
      by_cases hlt : j < n
      · obtain ⟨_, rfl, rfl⟩ : (j < n ∨ n = 0) ∧ _ ∧ _ := hdis.resolve_right (fun h => by omega)
        have hd : decide (j < n) = true := decide_eq_true hlt
        have hjl : j < s.length := by have := HN.out; omega
        obtain ⟨b, o, c', e, hc⟩ := (HS.out.fr hC).at hjl
        injection e with e e2 e3
        subst e
        clear e2 e3
        have hb := prod_bd HSH.out j
        have hb1 := prod_bd HSH.out (j + 1)
        have HT := Lib.hid (prodL_take s j hjl)
        have hb2 : 0 ≤ prodL (s.take j) * s[j] ∧ prodL (s.take j) * s[j] ≤ 281474976710656 := by rw [← prodL_take s j hjl]; exact hb1
        have HLAST := Lib.hid (show j + 1 = n → prodL s.dropLast = prodL (s.take j) ∧ s.getLastD 1 = s[j] from fun h => by
          have hn := HN.out
          refine ⟨by rw [List.dropLast_eq_take]; congr 2; omega, ?_⟩
          rw [List.getLastD_eq_getLast?, List.getLast?_eq_getElem?, show s.length - 1 = j by omega, List.getElem?_eq_getElem hjl]
          rfl)
        have i1 : (0 : Int) ≤ (j : Int) := by omega
        have i2 : (j : Int) < (n : Int) := by omega
        have kw : IntKind.i64.wrap ((j : Int) + 1) = (j : Int) + 1 := IntWalk.i64_in _ (by omega)
        have HM := Lib.hid (fit_meas j n hlt)
        have HC := Lib.hid hC
        have HJ := Lib.hid hlt
        generalize s[j] = x at *
        generalize prodL (s.take j) = p at *
        have kp : IntKind.i64.wrap (p * x) = p * x := IntWalk.i64_in _ (by omega)
        clear hdis hjl hb hb1 hb2 hC hj
        by_cases hl : j + 1 = n
        · have d1 : ((j : Int) == (n : Int) - 1) = true := by rw [beq_iff_eq]; omega
          have HL := Lib.hid (HLAST.out hl)
          have HE := Lib.hid hl
          clear hl hlt kp
          go_wp2
          go_roundw
          case rel => exact ⟨j + 1, HJ.out, by go_num, .inr ⟨HE.out, by have := HJ.out; omega, by rw [HL.out.1], by rw [HL.out.2]⟩, HC.out⟩
          case measure => exact HM.out
        · have d1 : ((j : Int) == (n : Int) - 1) = false := by rw [beq_eq_false_iff_ne]; omega
          have HE := Lib.hid hl
          clear hl hlt
          go_wp2
          go_roundw
          case rel => exact ⟨j + 1, HJ.out, by go_num, .inl ⟨.inl (by have := HE.out; have := HJ.out; omega), by rw [HT.out], rfl⟩, HC.out⟩
          case measure => exact HM.out
      · obtain rfl : j = n := by omega
        have hd : decide (j < j) = false := decide_eq_false (by omega)
        have HR := Lib.hid (show ∃ a b, manyN s = a ∧ longN s = b from ⟨_, _, rfl, rfl⟩)
        have h0 : (∃ a b, (Value.int .i64 a = .int .i64 (manyN s)) ∧ (Value.int .i64 b = .int .i64 (longN s)) ∧ u2 = .int .i64 a ∧ u3 = .int .i64 b) := by
          unfold manyN longN
          rw [HSH.out, if_pos rfl, if_pos rfl]
          rcases hdis with ⟨h1, rfl, rfl⟩ | ⟨h1, h2, rfl, rfl⟩
          · have hs0 : s = [] := List.eq_nil_of_length_eq_zero (by have := HN.out; omega)
            subst hs0
            exact ⟨_, _, rfl, rfl, by rw [List.take_nil]; rfl, rfl⟩
          · exact ⟨_, _, rfl, rfl, rfl, rfl⟩
        obtain ⟨a, b, ea, eb, rfl, rfl⟩ := h0
        have HAB := Lib.hid (And.intro ea eb)
        have HC := Lib.hid hC
        clear hdis hj hlt hC ea eb HR
        go_wp2
        go_ret2
        exact ⟨by rw [← HAB.out.1, ← HAB.out.2]; rfl, HC.out⟩
end Go.Proofs.Ytjmlekdgipinfaa
