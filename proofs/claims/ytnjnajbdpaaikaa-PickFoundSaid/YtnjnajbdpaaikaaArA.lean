/- Slices of numbers: counts, comparisons, copies. -/
import Derived.Test.YtnjnajbdpaaikaaRows
import Derived.Test.YtnjnajbdpaaikaaAp
import Derived.BigQuiet
import Derived.IntWalk
import Derived.Deep.QuietTactic
namespace Go.Proofs.Ytnjnajbdpaaikaa
open Go.RowKit

/-- The slice value v reads as the numbers xs. -/
def Ls (w : World) (v : Value) (xs : List Int) : Prop := Sl w v (xs.map I)
theorem Ls.form {w : World} {v : Value} {xs : List Int} (h : Ls w v xs) : ∃ ao c, v = .slice ao xs.length c ∧ xs.length ≤ c ∧ c ≤ maxLen ∧ (ao = none → c = 0) := by
  have h := Sl.form h
  rw [List.length_map] at h
  exact h
theorem Ls.at {w : World} {v : Value} {xs : List Int} (h : Ls w v xs) {j : Nat} (hj : j < xs.length) : ∃ b o c, v = .slice (some ⟨b, o, none⟩) xs.length c ∧ w.cell? ⟨b, o + j, none⟩ = some (.int .i64 xs[j]) := by
  obtain ⟨b, o, c, h1, h2⟩ := Sl.at h (j := j) (by rw [List.length_map]; exact hj)
  rw [List.length_map] at h1
  rw [List.getElem_map] at h2
  exact ⟨b, o, c, h1, h2⟩
theorem Ls.chg {S : Nat → Prop} {w w' : World} {v : Value} {xs : List Int} (h : Ls w v xs) (hC : Chg S w w') (hn : ∀ k, v.ownBlock = some k → ¬ S k) : Ls w' v xs := Sl.chg h hC hn
theorem Ls.fr {w w' : World} {v : Value} {xs : List Int} (h : Ls w v xs) (hC : Chg (fun _ => False) w w') : Ls w' v xs := Sl.fr h hC
theorem Ls.len {w : World} {v : Value} {xs : List Int} (h : Ls w v xs) : xs.length ≤ 9223372036854775807 := by
  have h := Sl.len h
  rw [List.length_map] at h
  unfold maxLen at h
  exact h
theorem Ls.src {w : World} {ao : Option Addr} {n c : Nat} {xs : List Int} (h : Ls w (.slice ao n c) xs) : ∀ j u, (xs.map I)[j]? = some u → ∃ ad, ao = some ad ∧ w.cell? (ad.add j) = some u := Sl.src h
theorem Ls.nil (w : World) : Ls w (.slice none 0 0) [] := ⟨⟨none, 0, rfl, Nat.le_refl _, Nat.zero_le _, fun _ => rfl⟩, fun j u hu => by simp at hu⟩
theorem I_one (xs : List Int) : ∀ u ∈ xs.map I, u.oneCell' = true := by
  intro u hu
  obtain ⟨x, _, rfl⟩ := List.mem_map.1 hu
  rfl
def In64 (n : Int) : Prop := -9223372036854775808 ≤ n ∧ n ≤ 9223372036854775807
theorem i64_of {n : Int} (h : In64 n) : IntKind.i64.wrap n = n := IntWalk.i64_in _ (by unfold In64 at h; omega)
/-- A slice of numbers in memory from 'base' on. -/
def Own (w : World) (base t : Nat) (v : Value) (xs : List Int) : Prop := w.ownsRow base t 1 v xs.length (xs.map I)
theorem Own.ls {w : World} {base t : Nat} {v : Value} {xs : List Int} (h : Own w base t v xs) : Ls w v xs := Sl.of_owns h
theorem Own.chg {S : Nat → Prop} {w w' : World} {base t : Nat} {v : Value} {xs : List Int} (h : Own w base t v xs) (hC : Chg S w w') (hn : ∀ k, v.ownBlock = some k → ¬ S k) : Own w' base t v xs := hC.owns h hn
theorem Own.fr {w w' : World} {base t : Nat} {v : Value} {xs : List Int} (h : Own w base t v xs) (hC : Chg (fun _ => False) w w') : Own w' base t v xs := hC.owns h (fun _ _ => id)
theorem Own.mono {w : World} {base b2 t : Nat} {v : Value} {xs : List Int} (h : Own w base t v xs) (hb : b2 ≤ base) : Own w b2 t v xs := by
  refine ⟨h.1, ?_⟩
  rcases h.2 with h2 | ⟨g, cap, cur, e, hg, r⟩
  · exact .inl h2
  · exact .inr ⟨g, cap, cur, e, Nat.le_trans hb hg, r⟩
theorem Own.nil (w : World) (base t : Nat) : Own w base t (.slice none 0 0) [] := World.ownsRow_nil w base t 1
theorem Own.lt {w : World} {base t : Nat} {v : Value} {xs : List Int} (h : Own w base t v xs) : ∀ k, v.ownBlock = some k → base ≤ k ∧ k < w.heap.size := fun k hk => World.ownsRow.lt h k hk

def GaveBo (w : World) (b : Bool) (e : Ending) (w' : World) : Prop := e = .returned (.bool b) ∧ Chg (fun _ => False) w w'
def GaveI (w : World) (n : Int) (e : Ending) (w' : World) : Prop := e = .returned (.int .i64 n) ∧ Chg (fun _ => False) w w'
def GaveII (w : World) (n m : Int) (e : Ending) (w' : World) : Prop := e = .returned (.tuple #[.int .i64 n, .int .i64 m]) ∧ Chg (fun _ => False) w w'
def GaveIB (w : World) (n : Int) (b : Bool) (e : Ending) (w' : World) : Prop := e = .returned (.tuple #[.int .i64 n, .bool b]) ∧ Chg (fun _ => False) w w'
theorem fit_meas (j n : Nat) (h : j < n) : n - (intOf (.int .i64 ((j : Int) + 1))).toNat < n - (intOf (.int .i64 (j : Int))).toNat := by
  simp [intOf]
  omega
/-- The product up to a place, and the next one. -/
theorem prod_next {s : List Int} {k : Nat} (hk : k < s.length) (h4 : s.length ≤ 4) (hb : ∀ l ∈ s.take k, 0 ≤ l ∧ l ≤ 4096) (h0 : 0 ≤ s[k]) (h1 : s[k] ≤ 4096) :
    (0 ≤ prodL (s.take k) * s[k] ∧ prodL (s.take k) * s[k] ≤ 281474976710656) ∧ prodL (s.take (k + 1)) = prodL (s.take k) * s[k] ∧ ∀ l ∈ s.take (k + 1), 0 ≤ l ∧ l ≤ 4096 := by
  have e := prodL_take s k hk
  have hb2 : ∀ l ∈ s.take (k + 1), 0 ≤ l ∧ l ≤ 4096 := by
    intro l hl
    rw [List.take_succ_eq_append_getElem hk] at hl
    rcases List.mem_append.1 hl with hl | hl
    · exact hb l hl
    · rw [List.mem_singleton.1 hl]; exact ⟨h0, h1⟩
  refine ⟨?_, e, hb2⟩
  rw [← e]
  have h2 := prodL_le _ hb2
  have h3 : (4096 : Int) ^ (s.take (k + 1)).length ≤ 4096 ^ 4 := by
    have hl : (s.take (k + 1)).length ≤ 4 := by rw [List.length_take]; omega
    have := Nat.pow_le_pow_right (n := 4096) (by decide) hl
    have e2 : ∀ m : Nat, (4096 : Int) ^ m = ((4096 ^ m : Nat) : Int) := fun m => by rw [Int.natCast_pow]; rfl
    rw [e2, e2]
    omega
  exact ⟨prodL_nonneg _ (fun l hl => (hb2 l hl).1), Int.le_trans h2 h3⟩
theorem shB_bad {s : List Int} {k : Nat} (hk : k < s.length) (h : s[k] < 0 ∨ 4096 < s[k]) : shB s = false := by
  rw [Bool.eq_false_iff]
  intro hs
  have := (shB_iff.1 hs).2.1 s[k] (List.getElem_mem hk)
  omega
theorem shB_long {s : List Int} (h : 4 < s.length) : shB s = false := by
  rw [Bool.eq_false_iff]
  intro hs
  have := (shB_iff.1 hs).1
  omega
def GaveC (w : World) (s : List Int) (e : Ending) (w' : World) : Prop := e = .returned (.tuple #[.int .i64 (cntN s), .int .i64 (cntE s)]) ∧ w' = w
set_option maxRecDepth 100000 in
set_option maxHeartbeats 1000000 in
theorem count_any (v : Value) (s : List Int) (w : World) (hS : Ls w v s) : Calls Try.prog 57 #[v] w (GaveC w s) := by
  obtain ⟨ao, c, rfl, h1, h2, _⟩ := hS.form
  have hl := hS.len
  have HS := Lib.hid hS
  by_cases h4 : 4 < s.length
  · have HB := Lib.hid (shB_long h4)
    have h4' : (4 : Int) < (s.length : Int) := by omega
    clear hS
    go_enter Try.func57, Try.ntmps57
    go_wp2
    go_ret2
    exact ⟨by rw [cntN_not HB.out, cntE_not HB.out]; rfl, rfl⟩
  · have h4' : ¬ (4 : Int) < (s.length : Int) := by omega
    clear hS
    go_enter Try.func57, Try.ntmps57
    go_wp2
    go_loopw [4, 12] (fun n i wr => ∃ k : Nat, k ≤ s.length ∧ i = .int .i64 k ∧ (∃ P : Int, P = prodL (s.take k) ∧ n = .int .i64 P) ∧ (∀ l ∈ s.take k, 0 ≤ l ∧ l ≤ 4096) ∧ wr = w) (fun _ i _ => s.length - (intOf i).toNat)
    case atStart => exact ⟨0, Nat.zero_le _, rfl, ⟨1, rfl, rfl⟩, by simp, rfl⟩
    case round =>
      obtain ⟨k, hk, rfl, ⟨P, hP, rfl⟩, hb, rfl⟩ := hrel
      by_cases hlt : k < s.length
      · have hlt' : (k : Int) < (s.length : Int) := by omega
        have hkw : IntKind.i64.wrap ((k : Int) + 1) = (k : Int) + 1 := IntWalk.i64_in _ (by omega)
        obtain ⟨b, o, c', e1, hcell⟩ := HS.out.at hlt
        have hnx := prod_next hlt (by omega) hb
        have hbd := shB_bad hlt
        obtain ⟨x, hx⟩ : ∃ x, s[k] = x := ⟨_, rfl⟩
        rw [hx] at hcell hnx hbd
        injection e1 with e1 e2 e3
        clear e2 e3 hx
        subst e1
        by_cases hx0 : x < 0
        · have HB := Lib.hid (hbd (.inl hx0))
          clear hnx hbd hP hb
          go_wp2
          go_ret2
          exact ⟨by rw [cntN_not HB.out, cntE_not HB.out]; rfl, rfl⟩
        · by_cases hx1 : 4096 < x
          · have HB := Lib.hid (hbd (.inr hx1))
            clear hnx hbd hP hb
            go_wp2
            go_ret2
            exact ⟨by rw [cntN_not HB.out, cntE_not HB.out]; rfl, rfl⟩
          · obtain ⟨⟨g1, g2⟩, g3, g4⟩ := hnx (by omega) (by omega)
            rw [← hP] at g1 g2 g3
            have hw : IntKind.i64.wrap (P * x) = P * x := IntWalk.i64_in _ (by omega)
            have HP := Lib.hid g3
            have HB := Lib.hid g4
            clear hbd hnx hP hb g3 g4
            go_wp2
            go_roundw
            case rel => exact ⟨k + 1, hlt, by go_num, ⟨_, HP.out.symm, rfl⟩, HB.out, by first | rfl | trivial⟩
            case measure => exact fit_meas k s.length hlt
      · obtain rfl : k = s.length := by omega
        rw [List.take_length] at hP hb
        by_cases hP4 : 4096 < P
        · have hsh : shB s = false := by
            rw [Bool.eq_false_iff]
            intro hs
            have := (shB_iff.1 hs).2.2
            omega
          have HB := Lib.hid hsh
          clear hP hb hsh
          go_wp2
          go_ret2
          exact ⟨by rw [cntN_not HB.out, cntE_not HB.out]; rfl, rfl⟩
        · have hsh : shB s = true := shB_iff.2 ⟨by omega, hb, by omega⟩
          have HP := Lib.hid hP
          have HB := Lib.hid hsh
          clear hP hb hsh
          go_wp2
          go_ret2
          exact ⟨by rw [cntN_ok HB.out, cntE_ok HB.out, ← HP.out]; rfl, rfl⟩
set_option maxRecDepth 100000 in
set_option maxHeartbeats 1000000 in
theorem r11count_any (v : Value) (s : List Int) (w : World) (hS : Ls w v s) : Calls Try.prog 74 #[v] w (GaveC w s) := by
  obtain ⟨ao, c, rfl, h1, h2, _⟩ := hS.form
  have hl := hS.len
  have HS := Lib.hid hS
  by_cases h4 : 4 < s.length
  · have HB := Lib.hid (shB_long h4)
    have h4' : (4 : Int) < (s.length : Int) := by omega
    clear hS
    go_enter Try.func74, Try.ntmps74
    go_wp2
    go_ret2
    exact ⟨by rw [cntN_not HB.out, cntE_not HB.out]; rfl, rfl⟩
  · have h4' : ¬ (4 : Int) < (s.length : Int) := by omega
    clear hS
    go_enter Try.func74, Try.ntmps74
    go_wp2
    go_loopw [4, 5] (fun n i wr => ∃ k : Nat, k ≤ s.length ∧ i = .int .i64 k ∧ (∃ P : Int, P = prodL (s.take k) ∧ n = .int .i64 P) ∧ (∀ l ∈ s.take k, 0 ≤ l ∧ l ≤ 4096) ∧ wr = w) (fun _ i _ => s.length - (intOf i).toNat)
    case atStart => exact ⟨0, Nat.zero_le _, rfl, ⟨1, rfl, rfl⟩, by simp, rfl⟩
    case round =>
      obtain ⟨k, hk, rfl, ⟨P, hP, rfl⟩, hb, rfl⟩ := hrel
      by_cases hlt : k < s.length
      · have hlt' : (k : Int) < (s.length : Int) := by omega
        have hkw : IntKind.i64.wrap ((k : Int) + 1) = (k : Int) + 1 := IntWalk.i64_in _ (by omega)
        obtain ⟨b, o, c', e1, hcell⟩ := HS.out.at hlt
        have hnx := prod_next hlt (by omega) hb
        have hbd := shB_bad hlt
        obtain ⟨x, hx⟩ : ∃ x, s[k] = x := ⟨_, rfl⟩
        rw [hx] at hcell hnx hbd
        injection e1 with e1 e2 e3
        clear e2 e3 hx
        subst e1
        by_cases hx0 : x < 0
        · have HB := Lib.hid (hbd (.inl hx0))
          clear hnx hbd hP hb
          go_wp2
          go_ret2
          exact ⟨by rw [cntN_not HB.out, cntE_not HB.out]; rfl, rfl⟩
        · by_cases hx1 : 4096 < x
          · have HB := Lib.hid (hbd (.inr hx1))
            clear hnx hbd hP hb
            go_wp2
            go_ret2
            exact ⟨by rw [cntN_not HB.out, cntE_not HB.out]; rfl, rfl⟩
          · obtain ⟨⟨g1, g2⟩, g3, g4⟩ := hnx (by omega) (by omega)
            rw [← hP] at g1 g2 g3
            have hw : IntKind.i64.wrap (P * x) = P * x := IntWalk.i64_in _ (by omega)
            have HP := Lib.hid g3
            have HB := Lib.hid g4
            clear hbd hnx hP hb g3 g4
            go_wp2
            go_roundw
            case rel => exact ⟨k + 1, hlt, by go_num, ⟨_, HP.out.symm, rfl⟩, HB.out, by first | rfl | trivial⟩
            case measure => exact fit_meas k s.length hlt
      · obtain rfl : k = s.length := by omega
        rw [List.take_length] at hP hb
        by_cases hP4 : 4096 < P
        · have hsh : shB s = false := by
            rw [Bool.eq_false_iff]
            intro hs
            have := (shB_iff.1 hs).2.2
            omega
          have HB := Lib.hid hsh
          clear hP hb hsh
          go_wp2
          go_ret2
          exact ⟨by rw [cntN_not HB.out, cntE_not HB.out]; rfl, rfl⟩
        · have hsh : shB s = true := shB_iff.2 ⟨by omega, hb, by omega⟩
          have HP := Lib.hid hP
          have HB := Lib.hid hsh
          clear hP hb hsh
          go_wp2
          go_ret2
          exact ⟨by rw [cntN_ok HB.out, cntE_ok HB.out, ← HP.out]; rfl, rfl⟩
set_option maxRecDepth 100000 in
set_option maxHeartbeats 400000 in
theorem equalI_same (a1 a2 : Option Addr) (c1 c2 n : Nat) (xs ys : List Int) (w : World) (m1 : xs.length = n) (m2 : ys.length = n) (HS : Hid (Ls w (.slice a1 n c1) xs)) (HT : Hid (Ls w (.slice a2 n c2) ys)) (hl : n ≤ 140737488355328) :
    Calls Try.prog 86 #[.slice a1 n c1, .slice a2 n c2] w (GaveBo w (decide (xs = ys))) := by
  have M1 := Lib.hid m1
  have M2 := Lib.hid m2
  clear m1 m2
  go_enter Try.func86, Try.ntmps86
  go_wp2
  go_loopw [13] (fun i wr => ∃ k : Nat, k ≤ n ∧ i = .int .i64 k ∧ xs.take k = ys.take k ∧ Chg (fun _ => False) w wr)
    (fun i _ => n - (intOf i).toNat)
  case atStart => exact ⟨0, Nat.zero_le _, rfl, rfl, Chg.refl _ _⟩
  case round =>
    obtain ⟨k, hk, rfl, he, hC⟩ := hrel
    by_cases hlt : k < n
    · have hk1 : k < xs.length := by have := M1.out; omega
      have hk2 : k < ys.length := by have := M2.out; omega
      obtain ⟨b1, o1, d1, e1, hx⟩ := (HS.out.fr hC).at hk1
      obtain ⟨b2, o2, d2, e2, hy⟩ := (HT.out.fr hC).at hk2
      injection e1 with e1 f1 f2
      injection e2 with e2 f3 f4
      subst e1 e2
      clear f1 f2 f3 f4
      have hnx : xs[k] = ys[k] → xs.take (k + 1) = ys.take (k + 1) := fun h => by rw [List.take_succ_eq_append_getElem hk1, List.take_succ_eq_append_getElem hk2, he, h]
      have hne : xs[k] ≠ ys[k] → xs ≠ ys := fun h e => h (by subst e; rfl)
      generalize xs[k] = x at *
      generalize ys[k] = y at *
      have hlt' : (k : Int) < (n : Int) := by omega
      have hkw : IntKind.i64.wrap ((k : Int) + 1) = (k : Int) + 1 := IntWalk.i64_in _ (by omega)
      have hCd := hC.drew
      by_cases hxy : x = y
      · have hxy' : (x != y) = false := by rw [hxy]; simp
        have HN := Lib.hid (hnx hxy)
        clear hnx hne hxy he
        go_wp2
        go_quiet (fail)
        go_wp2
        go_roundw
        case rel => exact ⟨k + 1, hlt, by go_num, HN.out, by first | exact hC.drewN _ | exact hCd⟩
        case measure => exact fit_meas k n hlt
      · have hxy' : (x != y) = true := by simpa using hxy
        have hne' := Lib.hid (hne hxy)
        clear hnx hne hxy he
        go_wp2
        go_quiet (fail)
        go_wp2
        go_ret
        exact ⟨by rw [decide_eq_false hne'.out]; rfl, by first | exact hC.drewN _ | exact hCd⟩
    · obtain rfl : n = k := by omega
      have hxs : xs = ys := by
        rw [List.take_of_length_le (by have := M1.out; omega), List.take_of_length_le (by have := M2.out; omega)] at he
        exact he
      have HX := Lib.hid hxs
      clear he hxs
      go_wp2
      go_ret
      exact ⟨by rw [decide_eq_true HX.out]; rfl, hC⟩
set_option maxHeartbeats 400000 in
theorem equalI_any (u v : Value) (xs ys : List Int) (w : World) (hS : Ls w u xs) (hT : Ls w v ys) (hl : xs.length ≤ 140737488355328) :
    Calls Try.prog 86 #[u, v] w (GaveBo w (decide (xs = ys))) := by
  obtain ⟨a1, c1, rfl, _⟩ := hS.form
  obtain ⟨a2, c2, rfl, _⟩ := hT.form
  by_cases hlen : xs.length = ys.length
  · rw [← hlen] at hT ⊢
    exact equalI_same a1 a2 c1 c2 _ xs ys w rfl hlen.symm (Lib.hid hS) (Lib.hid hT) hl
  · clear hS hT
    have h1 : ((xs.length : Int) != (ys.length : Int)) = true := by simp only [bne_iff_ne, ne_eq]; omega
    have h2 : decide (xs = ys) = false := decide_eq_false (fun e => hlen (by rw [e]))
    rw [h2]
    clear h2 hlen
    go_enter Try.func86, Try.ntmps86
    go_wp2
    go_ret
    exact ⟨rfl, Chg.refl _ _⟩
set_option maxRecDepth 100000 in
set_option maxHeartbeats 400000 in
theorem equalL_same (a1 a2 : Option Addr) (c1 c2 n : Nat) (xs ys : List Int) (w : World) (m1 : xs.length = n) (m2 : ys.length = n) (HS : Hid (Ls w (.slice a1 n c1) xs)) (HT : Hid (Ls w (.slice a2 n c2) ys)) (hl : n ≤ 140737488355328) :
    Calls Try.prog 87 #[.slice a1 n c1, .slice a2 n c2] w (GaveBo w (decide (xs = ys))) := by
  have M1 := Lib.hid m1
  have M2 := Lib.hid m2
  clear m1 m2
  go_enter Try.func87, Try.ntmps87
  go_wp2
  go_loopw [13] (fun i wr => ∃ k : Nat, k ≤ n ∧ i = .int .i64 k ∧ xs.take k = ys.take k ∧ Chg (fun _ => False) w wr)
    (fun i _ => n - (intOf i).toNat)
  case atStart => exact ⟨0, Nat.zero_le _, rfl, rfl, Chg.refl _ _⟩
  case round =>
    obtain ⟨k, hk, rfl, he, hC⟩ := hrel
    by_cases hlt : k < n
    · have hk1 : k < xs.length := by have := M1.out; omega
      have hk2 : k < ys.length := by have := M2.out; omega
      obtain ⟨b1, o1, d1, e1, hx⟩ := (HS.out.fr hC).at hk1
      obtain ⟨b2, o2, d2, e2, hy⟩ := (HT.out.fr hC).at hk2
      injection e1 with e1 f1 f2
      injection e2 with e2 f3 f4
      subst e1 e2
      clear f1 f2 f3 f4
      have hnx : xs[k] = ys[k] → xs.take (k + 1) = ys.take (k + 1) := fun h => by rw [List.take_succ_eq_append_getElem hk1, List.take_succ_eq_append_getElem hk2, he, h]
      have hne : xs[k] ≠ ys[k] → xs ≠ ys := fun h e => h (by subst e; rfl)
      generalize xs[k] = x at *
      generalize ys[k] = y at *
      have hlt' : (k : Int) < (n : Int) := by omega
      have hkw : IntKind.i64.wrap ((k : Int) + 1) = (k : Int) + 1 := IntWalk.i64_in _ (by omega)
      have hCd := hC.drew
      by_cases hxy : x = y
      · have hxy' : (x != y) = false := by rw [hxy]; simp
        have HN := Lib.hid (hnx hxy)
        clear hnx hne hxy he
        go_wp2
        go_quiet (fail)
        go_wp2
        go_roundw
        case rel => exact ⟨k + 1, hlt, by go_num, HN.out, by first | exact hC.drewN _ | exact hCd⟩
        case measure => exact fit_meas k n hlt
      · have hxy' : (x != y) = true := by simpa using hxy
        have hne' := Lib.hid (hne hxy)
        clear hnx hne hxy he
        go_wp2
        go_quiet (fail)
        go_wp2
        go_ret
        exact ⟨by rw [decide_eq_false hne'.out]; rfl, by first | exact hC.drewN _ | exact hCd⟩
    · obtain rfl : n = k := by omega
      have hxs : xs = ys := by
        rw [List.take_of_length_le (by have := M1.out; omega), List.take_of_length_le (by have := M2.out; omega)] at he
        exact he
      have HX := Lib.hid hxs
      clear he hxs
      go_wp2
      go_ret
      exact ⟨by rw [decide_eq_true HX.out]; rfl, hC⟩
set_option maxHeartbeats 400000 in
theorem equalL_any (u v : Value) (xs ys : List Int) (w : World) (hS : Ls w u xs) (hT : Ls w v ys) (hl : xs.length ≤ 140737488355328) :
    Calls Try.prog 87 #[u, v] w (GaveBo w (decide (xs = ys))) := by
  obtain ⟨a1, c1, rfl, _⟩ := hS.form
  obtain ⟨a2, c2, rfl, _⟩ := hT.form
  by_cases hlen : xs.length = ys.length
  · rw [← hlen] at hT ⊢
    exact equalL_same a1 a2 c1 c2 _ xs ys w rfl hlen.symm (Lib.hid hS) (Lib.hid hT) hl
  · clear hS hT
    have h1 : ((xs.length : Int) != (ys.length : Int)) = true := by simp only [bne_iff_ne, ne_eq]; omega
    have h2 : decide (xs = ys) = false := decide_eq_false (fun e => hlen (by rw [e]))
    rw [h2]
    clear h2 hlen
    go_enter Try.func87, Try.ntmps87
    go_wp2
    go_ret
    exact ⟨rfl, Chg.refl _ _⟩
set_option maxRecDepth 100000 in
set_option maxHeartbeats 400000 in
theorem r11shapes_same (a1 a2 : Option Addr) (c1 c2 n : Nat) (xs ys : List Int) (w : World) (m1 : xs.length = n) (m2 : ys.length = n) (HS : Hid (Ls w (.slice a1 n c1) xs)) (HT : Hid (Ls w (.slice a2 n c2) ys)) (hl : n ≤ 140737488355328) :
    Calls Try.prog 43 #[.slice a1 n c1, .slice a2 n c2] w (GaveBo w (decide (xs = ys))) := by
  have M1 := Lib.hid m1
  have M2 := Lib.hid m2
  clear m1 m2
  go_enter Try.func43, Try.ntmps43
  go_wp2
  go_loopw [5] (fun i wr => ∃ k : Nat, k ≤ n ∧ i = .int .i64 k ∧ xs.take k = ys.take k ∧ Chg (fun _ => False) w wr)
    (fun i _ => n - (intOf i).toNat)
  case atStart => exact ⟨0, Nat.zero_le _, rfl, rfl, Chg.refl _ _⟩
  case round =>
    obtain ⟨k, hk, rfl, he, hC⟩ := hrel
    by_cases hlt : k < n
    · have hk1 : k < xs.length := by have := M1.out; omega
      have hk2 : k < ys.length := by have := M2.out; omega
      obtain ⟨b1, o1, d1, e1, hx⟩ := (HS.out.fr hC).at hk1
      obtain ⟨b2, o2, d2, e2, hy⟩ := (HT.out.fr hC).at hk2
      injection e1 with e1 f1 f2
      injection e2 with e2 f3 f4
      subst e1 e2
      clear f1 f2 f3 f4
      have hnx : xs[k] = ys[k] → xs.take (k + 1) = ys.take (k + 1) := fun h => by rw [List.take_succ_eq_append_getElem hk1, List.take_succ_eq_append_getElem hk2, he, h]
      have hne : xs[k] ≠ ys[k] → xs ≠ ys := fun h e => h (by subst e; rfl)
      generalize xs[k] = x at *
      generalize ys[k] = y at *
      have hlt' : (k : Int) < (n : Int) := by omega
      have hkw : IntKind.i64.wrap ((k : Int) + 1) = (k : Int) + 1 := IntWalk.i64_in _ (by omega)
      have hCd := hC.drew
      by_cases hxy : x = y
      · have hxy' : (x != y) = false := by rw [hxy]; simp
        have HN := Lib.hid (hnx hxy)
        clear hnx hne hxy he
        go_wp2
        go_quiet (fail)
        go_wp2
        go_roundw
        case rel => exact ⟨k + 1, hlt, by go_num, HN.out, by first | exact hC.drewN _ | exact hCd⟩
        case measure => exact fit_meas k n hlt
      · have hxy' : (x != y) = true := by simpa using hxy
        have hne' := Lib.hid (hne hxy)
        clear hnx hne hxy he
        go_wp2
        go_quiet (fail)
        go_wp2
        go_ret
        exact ⟨by rw [decide_eq_false hne'.out]; rfl, by first | exact hC.drewN _ | exact hCd⟩
    · obtain rfl : n = k := by omega
      have hxs : xs = ys := by
        rw [List.take_of_length_le (by have := M1.out; omega), List.take_of_length_le (by have := M2.out; omega)] at he
        exact he
      have HX := Lib.hid hxs
      clear he hxs
      go_wp2
      go_ret
      exact ⟨by rw [decide_eq_true HX.out]; rfl, hC⟩
set_option maxHeartbeats 400000 in
theorem r11shapes_any (u v : Value) (xs ys : List Int) (w : World) (hS : Ls w u xs) (hT : Ls w v ys) (hl : xs.length ≤ 140737488355328) :
    Calls Try.prog 43 #[u, v] w (GaveBo w (decide (xs = ys))) := by
  obtain ⟨a1, c1, rfl, _⟩ := hS.form
  obtain ⟨a2, c2, rfl, _⟩ := hT.form
  by_cases hlen : xs.length = ys.length
  · rw [← hlen] at hT ⊢
    exact r11shapes_same a1 a2 c1 c2 _ xs ys w rfl hlen.symm (Lib.hid hS) (Lib.hid hT) hl
  · clear hS hT
    have h1 : ((xs.length : Int) != (ys.length : Int)) = true := by simp only [bne_iff_ne, ne_eq]; omega
    have h2 : decide (xs = ys) = false := decide_eq_false (fun e => hlen (by rw [e]))
    rw [h2]
    clear h2 hlen
    go_enter Try.func43, Try.ntmps43
    go_wp2
    go_ret
    exact ⟨rfl, Chg.refl _ _⟩
theorem info_int : (Try.prog.info? 3).map (fun i => (i.zero, i.size, i.bytes)) = some (some (.int .i64 0), 1, 8) := by kernel_rfl
theorem info_long : (Try.prog.info? 2).map (fun i => (i.zero, i.size, i.bytes)) = some (some (.int .i64 0), 1, 8) := by kernel_rfl
/-- Numbers in new memory. -/
def GaveL (t : Nat) (w : World) (xs : List Int) (e : Ending) (w' : World) : Prop := ∃ v', e = .returned v' ∧ Own w' w.heap.size t v' xs ∧ Chg (fun _ => False) w w'
set_option maxHeartbeats 400000 in
theorem cloneI_any (v : Value) (xs : List Int) (w : World) (hS : Ls w v xs) (hl : xs.length ≤ 1000000) : Calls Try.prog 61 #[v] w (GaveL 3 w xs) := by
  obtain ⟨i0, hi, hz0, hz1, hz2⟩ := info_parts info_int
  obtain ⟨ao, c, rfl, hxc, _, hn⟩ := hS.form
  have HS := Lib.hid hS
  have hl2 : xs.length ≤ 140737488355328 := by omega
  have hnil := fun (W : World) (a : Option Addr) (n c : Nat) => Lib.run_eql_slice_nil (P := Try.prog) W 22 3 a n c 0 0 Try.underlying22
  clear hS
  cases ao with
  | none =>
    have h0 := hn rfl
    have hx : xs = [] := List.eq_nil_of_length_eq_zero (by omega)
    subst hx
    subst h0
    clear HS hn
    go_enter Try.func61, Try.ntmps61
    go_wp2
    go_ret
    exact ⟨_, rfl, Own.nil _ _ _, Chg.refl _ _⟩
  | some ad =>
    clear hn
    go_enter Try.func61, Try.ntmps61
    go_wp2_with (refine wpList_append_own_any rfl (.tmp 5) (.tmp 6) 22 rfl w.heap.size 3 i0 (.int .i64 0) 1 8 Try.underlying22 hi hz0 hz1 hz2 rfl (by decide) (.slice (some ⟨w.heap.size, 0, none⟩) 0 0) 0 [] rfl (World.ownsRow_lit w #[] 0 (Nat.le_refl _) (Nat.zero_le _) rfl) (some ad) xs.length c (xs.map I) rfl (by simp) (HS.out.fr ((Chg.refl _ _).alloc _)).src (I_one xs) (by unfold maxLen; omega) (by omega) (by simp) ?_; intro v2 w2 hown hg _ hO2; rw [Nat.zero_add, List.nil_append] at hown)
    go_ret
    exact ⟨_, rfl, hown, ((Chg.refl _ w).alloc _).grown hg (fun k e => .inr (by simp [Value.ownBlock] at e; omega))⟩
set_option maxHeartbeats 400000 in
theorem cloneL_any (v : Value) (xs : List Int) (w : World) (hS : Ls w v xs) (hl : xs.length ≤ 1000000) : Calls Try.prog 47 #[v] w (GaveL 2 w xs) := by
  obtain ⟨i0, hi, hz0, hz1, hz2⟩ := info_parts info_long
  obtain ⟨ao, c, rfl, hxc, _, hn⟩ := hS.form
  have HS := Lib.hid hS
  have hl2 : xs.length ≤ 140737488355328 := by omega
  have hnil := fun (W : World) (a : Option Addr) (n c : Nat) => Lib.run_eql_slice_nil (P := Try.prog) W 23 2 a n c 0 0 Try.underlying23
  clear hS
  cases ao with
  | none =>
    have h0 := hn rfl
    have hx : xs = [] := List.eq_nil_of_length_eq_zero (by omega)
    subst hx
    subst h0
    clear HS hn
    go_enter Try.func47, Try.ntmps47
    go_wp2
    go_ret
    exact ⟨_, rfl, Own.nil _ _ _, Chg.refl _ _⟩
  | some ad =>
    clear hn
    go_enter Try.func47, Try.ntmps47
    go_wp2_with (refine wpList_append_own_any rfl (.tmp 5) (.tmp 6) 23 rfl w.heap.size 2 i0 (.int .i64 0) 1 8 Try.underlying23 hi hz0 hz1 hz2 rfl (by decide) (.slice (some ⟨w.heap.size, 0, none⟩) 0 0) 0 [] rfl (World.ownsRow_lit w #[] 0 (Nat.le_refl _) (Nat.zero_le _) rfl) (some ad) xs.length c (xs.map I) rfl (by simp) (HS.out.fr ((Chg.refl _ _).alloc _)).src (I_one xs) (by unfold maxLen; omega) (by omega) (by simp) ?_; intro v2 w2 hown hg _ hO2; rw [Nat.zero_add, List.nil_append] at hown)
    go_ret
    exact ⟨_, rfl, hown, ((Chg.refl _ w).alloc _).grown hg (fun k e => .inr (by simp [Value.ownBlock] at e; omega))⟩
set_option maxHeartbeats 400000 in
theorem r11ints_any (v : Value) (xs : List Int) (w : World) (hS : Ls w v xs) (hl : xs.length ≤ 1000000) : Calls Try.prog 30 #[v] w (GaveL 3 w xs) := by
  obtain ⟨i0, hi, hz0, hz1, hz2⟩ := info_parts info_int
  obtain ⟨ao, c, rfl, _, _, _⟩ := hS.form
  have HS := Lib.hid hS
  have hl2 : xs.length ≤ 140737488355328 := by omega
  clear hS
  go_enter Try.func30, Try.ntmps30
  go_wp2_with (refine wpList_append_own_any rfl (.tmp 4) (.tmp 5) 22 rfl w.heap.size 3 i0 (.int .i64 0) 1 8 Try.underlying22 hi hz0 hz1 hz2 rfl (by decide) (.slice none 0 0) 0 [] rfl (World.ownsRow_nil _ _ _ _) ao xs.length c (xs.map I) rfl (by simp) HS.out.src (I_one xs) (by unfold maxLen; omega) (by omega) (Nat.le_refl _) ?_; intro v2 w2 hown hg _ hO2; rw [Nat.zero_add, List.nil_append] at hown)
  go_ret
  exact ⟨_, rfl, hown, (Chg.refl _ w).grown hg (fun k e => by simp [Value.ownBlock] at e)⟩
set_option maxHeartbeats 400000 in
theorem r11longs_any (v : Value) (xs : List Int) (w : World) (hS : Ls w v xs) (hl : xs.length ≤ 1000000) : Calls Try.prog 84 #[v] w (GaveL 2 w xs) := by
  obtain ⟨i0, hi, hz0, hz1, hz2⟩ := info_parts info_long
  obtain ⟨ao, c, rfl, _, _, _⟩ := hS.form
  have HS := Lib.hid hS
  have hl2 : xs.length ≤ 140737488355328 := by omega
  clear hS
  go_enter Try.func84, Try.ntmps84
  go_wp2_with (refine wpList_append_own_any rfl (.tmp 4) (.tmp 5) 23 rfl w.heap.size 2 i0 (.int .i64 0) 1 8 Try.underlying23 hi hz0 hz1 hz2 rfl (by decide) (.slice none 0 0) 0 [] rfl (World.ownsRow_nil _ _ _ _) ao xs.length c (xs.map I) rfl (by simp) HS.out.src (I_one xs) (by unfold maxLen; omega) (by omega) (Nat.le_refl _) ?_; intro v2 w2 hown hg _ hO2; rw [Nat.zero_add, List.nil_append] at hown)
  go_ret
  exact ⟨_, rfl, hown, (Chg.refl _ w).grown hg (fun k e => by simp [Value.ownBlock] at e)⟩
end Go.Proofs.Ytnjnajbdpaaikaa
