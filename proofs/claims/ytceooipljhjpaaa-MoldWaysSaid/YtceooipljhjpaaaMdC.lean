/- mold: what catenate's way tells. -/
import Derived.Test.YtceooipljhjpaaaMdB
namespace Go.Proofs.Ytceooipljhjpaaa
open Go.RowKit Go.Shelf

def lastN (s : List Int) : Int := s.getLastD 1
theorem lastN_snoc (f : List Int) (m : Int) : lastN (f ++ [m]) = m := by simp [lastN]
def sdB (a b : List Int) : Bool := decide (a = [] ∨ b = [] ∨ a.length = b.length ∨ a.length + 1 = b.length ∨ a.length = b.length + 1)
def sdF (a b : List Int) : List Int := if a = [] then b.dropLast else if b = [] ∨ a.length = b.length ∨ a.length = b.length + 1 then a.dropLast else if a.length + 1 = b.length then a else []
def sdM (a b : List Int) : Int := if a = [] then 1 else if b = [] ∨ a.length = b.length ∨ a.length = b.length + 1 then lastN a else if a.length + 1 = b.length then 1 else 0
theorem nil_snoc (a : List Int) : a = [] ∨ ∃ f m, a = f ++ [m] := by
  rcases List.eq_nil_or_concat a with h | ⟨f, m, h⟩
  · exact .inl h
  · exact .inr ⟨f, m, by rw [h, List.concat_eq_append]⟩
theorem sides_any (u v : Value) (a b : List Int) (w : World) (hU : Ls w u a) (hV : Ls w v b) (hl : b.length ≤ 1000000) : Calls Try.prog 68 #[u, v] w (SidesP w (sdF a b) (sdM a b) (sdF b a) (sdM b a) (sdB a b)) := by
  rcases nil_snoc a with rfl | ⟨fa, ma, rfl⟩
  · rcases nil_snoc b with rfl | ⟨fb, mb, rfl⟩
    · exact sides_none u v w hU hV
    · have h := sides_first u v fb mb w hU hV
      simpa [sdF, sdM, sdB, lastN] using h
  · rcases nil_snoc b with rfl | ⟨fb, mb, rfl⟩
    · have h := sides_second u v fa ma w hV hU
      simpa [sdF, sdM, sdB, lastN] using h
    · by_cases h1 : fa.length = fb.length
      · have h := sides_same u v fa fb ma mb w hU hV h1
        simpa [sdF, sdM, sdB, lastN, h1] using h
      · by_cases h2 : fa.length + 1 = fb.length
        · have h := sides_less u v (fa ++ [ma]) fb mb w hU hV (by simp) (by simp [h2])
          have h3 : ¬ fb.length = fa.length := by omega
          have h4 : ¬ fa.length = fb.length + 1 := by omega
          have h5 : ¬ fb.length = fb.length + 1 + 1 := by omega
          have h6 : ¬ fb.length = fa.length + 1 + 1 := by omega
          simpa [sdF, sdM, sdB, lastN, h1, ← h2, h3, h4, h5, h6] using h
        · by_cases h4 : fa.length = fb.length + 1
          · have h := sides_more u v (fb ++ [mb]) fa ma w hU hV (by simp) (by simp [h4])
            have h3 : ¬ fb.length = fa.length := by omega
            have h5 : ¬ fb.length = fa.length + 1 := by omega
            simpa [sdF, sdM, sdB, lastN, h1, h2, h3, h4, h5] using h
          · have h := sides_no u v (fa ++ [ma]) (fb ++ [mb]) w hU hV (by simp) (by simp) (by simpa using h1) (by simp; omega) (by simp; omega) hl
            have h3 : ¬ fb.length = fa.length := by omega
            have h5 : ¬ fb.length = fa.length + 1 := by omega
            have h6 : ¬ fb.length + 1 = fa.length := by omega
            simpa [sdF, sdM, sdB, lastN, h1, h2, h3, h4, h5, h6] using h
theorem catAt_any (bs : Nat) (sa sb : Bool) (o : Bool) (n : Int) (w : World) (x0 : w.cell? ⟨bs, 0, none⟩ = some (.bool sa)) (x1 : w.cell? ⟨bs, 1, none⟩ = some (.bool sb)) :
    Calls Try.prog 71 #[.int .i64 (if o then 1 else 0), .int .i64 n, .pointer (some ⟨bs, 0, none⟩)] w (GaveII w (if o then 1 else 0) (if (if o then sb else sa) then 0 else n)) := by
  cases o <;> cases sa <;> cases sb
  all_goals
    simp only [if_true, if_false, Bool.false_eq_true]
    go_enter Try.func71, Try.ntmps71
    go_wp2
    go_ret2
    exact ⟨rfl, Chg.refl _ _⟩
/-- Which one, and which element of it. -/
def catP (sa sb : Bool) (lx ly : Int) (i : Int) : Int × Int := if i % (lx + ly) < lx then (0, if sa then 0 else i / (lx + ly) * lx + i % (lx + ly)) else (1, if sb then 0 else i / (lx + ly) * ly + i % (lx + ly) - lx)
set_option maxHeartbeats 1000000 in
theorem catFn_any (bl bx ba by_ bs : Nat) (sa sb : Bool) (lx ly : Int) (i : Nat) (w : World) (hi : (i : Int) ≤ 4096) (h0 : 0 ≤ lx ∧ lx ≤ 4096) (h1 : 0 ≤ ly ∧ ly ≤ 4096) (h2 : 0 < lx + ly)
    (xl : w.cell? ⟨bl, 0, none⟩ = some (.int .i64 (lx + ly))) (xx : w.cell? ⟨bx, 1, none⟩ = some (.int .i64 lx)) (xy : w.cell? ⟨by_, 1, none⟩ = some (.int .i64 ly))
    (xa : w.cell? ⟨ba, 0, none⟩ = some (.func (.func 71) #[] #[.pointer (some ⟨bs, 0, none⟩)])) (s0 : w.cell? ⟨bs, 0, none⟩ = some (.bool sa)) (s1 : w.cell? ⟨bs, 1, none⟩ = some (.bool sb)) :
    Calls Try.prog 72 (#[.int .i64 i] ++ #[.pointer (some ⟨bl, 0, none⟩), .pointer (some ⟨bx, 0, none⟩), .pointer (some ⟨ba, 0, none⟩), .pointer (some ⟨by_, 0, none⟩)]) w (GaveII w (catP sa sb lx ly i).1 (catP sa sb lx ly i).2) := by
  obtain ⟨L, hL⟩ : ∃ L, lx + ly = L := ⟨_, rfl⟩
  obtain ⟨q, hq⟩ : ∃ q, (i : Int) / L = q := ⟨_, rfl⟩
  obtain ⟨r, hr⟩ : ∃ r, (i : Int) % L = r := ⟨_, rfl⟩
  have hL0 : 0 < L := by omega
  have hq0 : 0 ≤ q := by rw [← hq]; exact Int.ediv_nonneg (by omega) (by omega)
  have hq1 : q ≤ 4096 := by rw [← hq]; exact Int.le_trans (Int.ediv_le_self _ (by omega)) hi
  have hr0 : 0 ≤ r := by rw [← hr]; exact Int.emod_nonneg _ (by omega)
  have hr1 : r < L := by rw [← hr]; exact Int.emod_lt_of_pos _ hL0
  have e1 : Int.tdiv (i : Int) L = q := by rw [Int.tdiv_eq_ediv_of_nonneg (by omega)]; exact hq
  have e2 : Int.tmod (i : Int) L = r := by rw [Int.tmod_eq_emod_of_nonneg (by omega)]; exact hr
  have w1 : IntKind.i64.wrap q = q := IntWalk.i64_in _ (by omega)
  have w2 : IntKind.i64.wrap r = r := IntWalk.i64_in _ (by omega)
  have hm0 : ¬ L = 0 := by omega
  have b1 : 0 ≤ q * lx ∧ q * lx ≤ 4096 * 4096 := ⟨Int.mul_nonneg hq0 h0.1, Int.mul_le_mul hq1 h0.2 h0.1 (by decide)⟩
  have b2 : 0 ≤ q * ly ∧ q * ly ≤ 4096 * 4096 := ⟨Int.mul_nonneg hq0 h1.1, Int.mul_le_mul hq1 h1.2 h1.1 (by decide)⟩
  have HP : catP sa sb lx ly i = if r < lx then (0, if sa then 0 else q * lx + r) else (1, if sb then 0 else q * ly + r - lx) := by unfold catP; rw [hL, hq, hr]
  rw [hL] at xl
  have c0 := catAt_any bs sa sb false (q * lx + r)
  have c1 := catAt_any bs sa sb true (q * ly + r - lx)
  by_cases hlt : r < lx
  · rw [if_pos hlt] at HP
    have HR := Lib.hid HP
    have w3 : IntKind.i64.wrap (q * lx) = q * lx := IntWalk.i64_in _ (by omega)
    have w4 : IntKind.i64.wrap (q * lx + r) = q * lx + r := IntWalk.i64_in _ (by omega)
    have d1 : decide (r < lx) = true := decide_eq_true hlt
    have c0' := c0 w.drew (by simpa using s0) (by simpa using s1)
    simp only [if_false, Bool.false_eq_true] at c0'
    obtain ⟨z, hz⟩ : ∃ z, (if sa = true then 0 else q * lx + r) = z := ⟨_, rfl⟩
    rw [hz] at c0' HR
    clear hz
    clear HP hq hr hL hL0 h2 hq0 hq1 hr0 hr1 b1 b2 c0 c1 hlt h0 h1 hi
    go_enter Try.func72, Try.ntmps72
    go_wp2
    go_region
    go_wp2_with fail
    refine c0'.mono ?_
    rintro e9 w9 ⟨rfl, hC9⟩
    go_wp2
    go_ret2
    rw [HR.out]
    exact ⟨rfl, ((Chg.refl _ w).drew).tr hC9⟩
  · rw [if_neg hlt] at HP
    have HR := Lib.hid HP
    have w3 : IntKind.i64.wrap (q * ly) = q * ly := IntWalk.i64_in _ (by omega)
    have w4 : IntKind.i64.wrap (q * ly + r) = q * ly + r := IntWalk.i64_in _ (by omega)
    have w5 : IntKind.i64.wrap (q * ly + r - lx) = q * ly + r - lx := IntWalk.i64_in _ (by omega)
    have d1 : decide (r < lx) = false := decide_eq_false hlt
    have c1' := c1 w.drew (by simpa using s0) (by simpa using s1)
    simp only [if_true] at c1'
    obtain ⟨z, hz⟩ : ∃ z, (if sb = true then 0 else q * ly + r - lx) = z := ⟨_, rfl⟩
    rw [hz] at c1' HR
    clear hz
    clear HP hq hr hL hL0 h2 hq0 hq1 hr0 hr1 b1 b2 c0 c1 hlt h0 h1 hi
    go_enter Try.func72, Try.ntmps72
    go_wp2
    go_region
    go_wp2_with fail
    refine c1'.mono ?_
    rintro e9 w9 ⟨rfl, hC9⟩
    go_wp2
    go_ret2
    rw [HR.out]
    exact ⟨rfl, ((Chg.refl _ w).drew).tr hC9⟩
end Go.Proofs.Ytceooipljhjpaaa
