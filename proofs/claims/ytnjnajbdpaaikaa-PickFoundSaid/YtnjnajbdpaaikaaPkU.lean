/- slices' stable sort: two parts turned about; insertion. -/
import Derived.Test.YtnjnajbdpaaikaaPkT
namespace Go.Proofs.Ytnjnajbdpaaikaa
open Go.RowKit Go.Shelf

theorem chg_g {g : Nat} {a b c : World} (h : Chg (fun q => q = g) a b) (k : Chg (fun q => q = g) b c) : Chg (fun q => q = g) a c := h.trans k (fun _ _ h => h) (fun _ _ h => h)
/-- What is to be turned about still: X of i, Y of j elements, behind P, ahead of Q. -/
def Rot (P X Y Q xs : List Int) (m i j : Nat) : Prop := xs = P ++ (X ++ (Y ++ Q)) ∧ X.length = i ∧ Y.length = j ∧ m = P.length + i
set_option maxRecDepth 100000 in
set_option maxHeartbeats 1000000 in
theorem rotate_any (base g n c : Nat) (p x y q : List Int) (a m b : Nat) (fv : Value) (w : World) (h : AtG w base g n c (p ++ (x ++ (y ++ q)))) (ha : a = p.length) (hm : m = p.length + x.length) (hb : b = p.length + x.length + y.length) (hx : 0 < x.length) (hy : 0 < y.length) (hn : n ≤ 1000000) :
    Calls Try.prog 101 #[.slice (some ⟨g, 0, none⟩) n c, .int .i64 a, .int .i64 m, .int .i64 b, fv] w (Sorts w base g n c (p ++ (y ++ (x ++ q)))) := by
  have hlen := h.len
  simp only [List.length_append] at hlen
  have k1 : IntKind.i64.wrap ((m : Int) - (a : Int)) = ((x.length : Nat) : Int) := by rw [IntWalk.i64_in _ (by omega)]; omega
  have k2 : IntKind.i64.wrap ((b : Int) - (m : Int)) = ((y.length : Nat) : Int) := by rw [IntWalk.i64_in _ (by omega)]; omega
  have HN := Lib.hid hn
  have HM := Lib.hid hm
  have h0 : ∃ X Y P Q xs i j, Rot P X Y Q xs m i j ∧ 0 < i ∧ 0 < j ∧ xs.length = n ∧ P ++ (Y ++ (X ++ Q)) = p ++ (y ++ (x ++ q)) ∧ AtG w base g n c xs ∧ Value.int .i64 ((x.length : Nat) : Int) = .int .i64 i ∧ Value.int .i64 ((y.length : Nat) : Int) = .int .i64 j :=
    ⟨x, y, p, q, _, _, _, ⟨rfl, rfl, rfl, hm⟩, hx, hy, by simp only [List.length_append]; omega, rfl, h, rfl, rfl⟩
  clear h ha hm hb hx hy hlen hn
  go_enter Try.func101, Try.ntmps101
  go_wp2
  clear k1 k2
  go_loopw [10, 11] (fun vi vj wr => ∃ X Y P Q xs i j, Rot P X Y Q xs m i j ∧ 0 < i ∧ 0 < j ∧ xs.length = n ∧ P ++ (Y ++ (X ++ Q)) = p ++ (y ++ (x ++ q)) ∧ AtG wr base g n c xs ∧ vi = .int .i64 i ∧ vj = .int .i64 j ∧ Chg (fun q => q = g) w wr) (fun vi vj _ => (intOf vi).toNat + (intOf vj).toNat)
  case atStart =>
    obtain ⟨X, Y, P, Q, xs, i, j, h1, h2, h3, h4, h5, h6, h7, h8⟩ := h0
    exact ⟨X, Y, P, Q, xs, i, j, h1, h2, h3, h4, h5, h6, h7, h8, Chg.refl _ _⟩
  case round =>
    obtain ⟨X, Y, P, Q, xs, i, j, ⟨hxs, hX, hY, hmP⟩, hi, hj, hl, hR, hG, rfl, rfl, hC⟩ := hrel
    clear h0
    have hl2 : P.length + i + j + Q.length = n := by rw [← hl, hxs]; simp only [List.length_append]; omega
    have HC := Lib.hid hC
    have HR := Lib.hid hR
    have HI := Lib.hid (And.intro hi hj)
    have hnn := HN.out
    by_cases he : i = j
    · subst he
      have k1 : IntKind.i64.wrap ((m : Int) - (i : Int)) = ((P.length : Nat) : Int) := by rw [IntWalk.i64_in _ (by omega)]; omega
      have hsw := swapR_any base g n c P X [] Y Q P.length m i fv wr (by rw [hxs] at hG; exact hG) rfl (by simp; omega) hX hY hnn
      have d1 : ((i : Int) != (i : Int)) = false := by simp
      clear hxs hX hY hmP hi hj hl hR hG hC hl2 hnn
      go_wp2_with fail
      refine hsw.mono ?_
      clear hsw
      rintro e9 w2 ⟨rfl, hG2, hC2⟩
      go_wp2
      go_end0
      rw [← HR.out]
      exact ⟨rfl, hG2, chg_g HC.out hC2⟩
    · have d1 : ((i : Int) != (j : Int)) = true := by rw [bne_iff_ne]; omega
      by_cases hgt : j < i
      · have d2 : decide (j < i) = true := decide_eq_true hgt
        have k1 : IntKind.i64.wrap ((m : Int) - (i : Int)) = ((P.length : Nat) : Int) := by rw [IntWalk.i64_in _ (by omega)]; omega
        have k2 : IntKind.i64.wrap ((i : Int) - (j : Int)) = ((i - j : Nat) : Int) := by rw [IntWalk.i64_in _ (by omega)]; omega
        have hsw := swapR_any base g n c P (X.take j) (X.drop j) Y Q P.length m j fv wr (by rw [hxs] at hG; rw [← List.append_assoc (X.take j), List.take_append_drop]; exact hG) rfl (by rw [List.length_drop]; omega) (by rw [List.length_take]; omega) hY hnn
        have HNX := Lib.hid (show Rot (P ++ Y) (X.drop j) (X.take j) Q (P ++ (Y ++ (X.drop j ++ (X.take j ++ Q)))) m (i - j) j ∧ 0 < i - j ∧ 0 < j ∧ (P ++ (Y ++ (X.drop j ++ (X.take j ++ Q)))).length = n ∧ (P ++ Y) ++ (X.take j ++ (X.drop j ++ Q)) = p ++ (y ++ (x ++ q)) from
          ⟨⟨by simp only [List.append_assoc], by rw [List.length_drop]; omega, by rw [List.length_take]; omega, by rw [List.length_append]; omega⟩, by omega, hj, by simp only [List.length_append, List.length_drop, List.length_take]; omega, by rw [← List.append_assoc (X.take j), List.take_append_drop, ← hR, List.append_assoc]⟩)
        have HLT := Lib.hid hgt
        clear hxs hX hY hmP hi hj hl hR hG hC hl2 hnn hgt he
        go_wp2_with fail
        refine hsw.mono ?_
        clear hsw
        rintro e9 w2 ⟨rfl, hG2, hC2⟩
        go_wp2
        go_roundw
        case rel => exact ⟨_, _, _, _, _, _, _, HNX.out.1, HNX.out.2.1, HNX.out.2.2.1, HNX.out.2.2.2.1, HNX.out.2.2.2.2, hG2, rfl, rfl, chg_g HC.out hC2⟩
        case measure =>
          have h1 := HI.out
          have h2 := HLT.out
          simp only [intOf]
          omega
      · have d2 : decide (j < i) = false := decide_eq_false hgt
        have k1 : IntKind.i64.wrap ((m : Int) - (i : Int)) = ((P.length : Nat) : Int) := by rw [IntWalk.i64_in _ (by omega)]; omega
        have k2 : IntKind.i64.wrap ((j : Int) - (i : Int)) = ((j - i : Nat) : Int) := by rw [IntWalk.i64_in _ (by omega)]; omega
        have k3 : IntKind.i64.wrap ((m : Int) + (j : Int)) = (m : Int) + (j : Int) := IntWalk.i64_in _ (by omega)
        obtain ⟨r, hr⟩ : ∃ r, m + j - i = r := ⟨_, rfl⟩
        have k4 : IntKind.i64.wrap ((m : Int) + (j : Int) - (i : Int)) = (r : Int) := by rw [IntWalk.i64_in _ (by omega)]; omega
        have hsw := swapR_any base g n c P X (Y.take (j - i)) (Y.drop (j - i)) Q P.length r i fv wr (by rw [hxs] at hG; rw [← List.append_assoc (Y.take (j - i)), List.take_append_drop]; exact hG) rfl (by rw [List.length_take]; omega) hX (by rw [List.length_drop]; omega) hnn
        have HNX := Lib.hid (show Rot P (Y.drop (j - i)) (Y.take (j - i)) (X ++ Q) (P ++ (Y.drop (j - i) ++ (Y.take (j - i) ++ (X ++ Q)))) m i (j - i) ∧ 0 < i ∧ 0 < j - i ∧ (P ++ (Y.drop (j - i) ++ (Y.take (j - i) ++ (X ++ Q)))).length = n ∧ P ++ (Y.take (j - i) ++ (Y.drop (j - i) ++ (X ++ Q))) = p ++ (y ++ (x ++ q)) from
          ⟨⟨rfl, by rw [List.length_drop]; omega, by rw [List.length_take]; omega, by omega⟩, hi, by omega, by simp only [List.length_append, List.length_drop, List.length_take]; omega, by rw [← List.append_assoc (Y.take (j - i)), List.take_append_drop, ← hR]⟩)
        have HLT := Lib.hid (show i < j by omega)
        clear hr hxs hX hY hmP hi hj hl hR hG hC hl2 hnn hgt he
        go_wp2_with fail
        refine hsw.mono ?_
        clear hsw
        rintro e9 w2 ⟨rfl, hG2, hC2⟩
        go_wp2
        go_roundw
        case rel => exact ⟨_, _, _, _, _, _, _, HNX.out.1, HNX.out.2.1, HNX.out.2.2.1, HNX.out.2.2.2.1, HNX.out.2.2.2.2, hG2, rfl, rfl, chg_g HC.out hC2⟩
        case measure =>
          have h1 := HI.out
          have h2 := HLT.out
          simp only [intOf]
          omega
end Go.Proofs.Ytnjnajbdpaaikaa
