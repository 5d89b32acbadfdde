/- The document's transpose and permute, walked. -/
import Derived.Test.YtmmbdhfljabefaaTwA
import Derived.Test.YtmmbdhfljabefaaTrP
import Derived.Test.YtmmbdhfljabefaaTuX
namespace Go.Proofs.Ytmmbdhfljabefaa
open Go.RowKit Go.Shelf

set_option maxRecDepth 100000 in
set_option maxHeartbeats 3000000 in
theorem r14tra_any (v : Value) (s : List Int) (w : World) (hS : Ls w v s) : Calls Try.prog 20 #[v] w (GaveG w (toldW s (traW s))) := by
  obtain ⟨i0, hi, hz0, hz1, hz2⟩ := info_parts info_int
  obtain ⟨ao, c, rfl, _⟩ := hS.form
  have hC0 := (Chg.refl (fun _ => False) w).alloc (.cells #[.slice none 0 0, .slice none 0 0, .slice none 0 0] 38)
  have hR0 := Bx.new w (.slice none 0 0) (.slice none 0 0) (.slice none 0 0) 38
  have hmay := r14may_any _ s _ (hS.fr hC0)
  cases hsh : shB s with
  | false =>
    rw [hsh] at hmay
    have HR := Lib.hid (show toldW s (traW s) = noW 110 by unfold toldW; rw [hsh]; rfl)
    clear hsh hS
    go_enter Try.func20, Try.ntmps20
    go_wp2_with fail
    refine hmay.mono ?_
    clear hmay
    rintro e9 w1 ⟨rfl, hC1⟩
    obtain ⟨z0, z1, z2, x0', x1', x2'⟩ := hR0.fr hC1
    obtain ⟨⟨g0, g1⟩, g2⟩ := set3_cells (.slice none 0 0) (.slice none 0 0) (.slice none 0 0) z0 z1 z2
    go_wp2
    simp [bodyPost, results, Try.results20, go_sem, g0, g1, g2]
    rw [HR.out]
    exact leaveG0 (Nat.le_refl _) (hC0.tr hC1)
  | true =>
    rw [hsh] at hmay
    have HR := Lib.hid (show toldW s (traW s) = ⟨outL s (aboP s.length), axG s (aboP s.length), 0⟩ by unfold toldW; rw [hsh]; rfl)
    have hs4 := (shB_iff.1 hsh).1
    have HSH := Lib.hid hsh
    have HS := Lib.hid hS
    have hwl : IntKind.i64.wrap ((s.length : Int) - 1) = (s.length : Int) - 1 := IntWalk.i64_in _ (by omega)
    clear hsh hS
    go_enter Try.func20, Try.ntmps20
    go_wp2_with fail
    refine hmay.mono ?_
    clear hmay
    rintro e9 w1 ⟨rfl, hC1⟩
    have HC1 := Lib.hid (hC0.tr hC1)
    have HR1 := Lib.hid (hR0.fr hC1)
    have hsz1 : w.heap.size < w1.heap.size := (hR0.fr hC1).lt
    have HSZ := Lib.hid hsz1
    clear hC0 hC1 hR0 hsz1
    go_wp2
    go_loopw [4, 5] (fun tv i wr => ∃ (j : Nat) (q : Int), j ≤ s.length ∧ q = (s.length : Int) - 1 - (j : Int) ∧ i = .int .i64 q ∧ Own wr w1.heap.size 3 tv (revI s.length j) ∧ Chg (fun _ => False) w1 wr) (fun _ i _ => (intOf i + 1).toNat)
    case atStart => exact ⟨0, _, Nat.zero_le _, by simp, rfl, Own.nil _ _ _, Chg.refl _ _⟩
    case round =>
      obtain ⟨j, q, hj, hq, rfl, hown, hC⟩ := hrel
      by_cases hlt : j < s.length
      · have hm1 : w1.heap.size ≤ wr.heap.size := hC.size
        have hq0 : (0 : Int) ≤ q := by omega
        have hq4 : q ≤ 4 := by omega
        have hkw : IntKind.i64.wrap (q - 1) = q - 1 := IntWalk.i64_in _ (by omega)
        have HTK := Lib.hid (show revI s.length (j + 1) = revI s.length j ++ [q] by rw [revI_succ, hq])
        have hpl : (revI s.length j).length ≤ 4 := by rw [revI_length]; omega
        have HQ := Lib.hid hq
        have HLT := Lib.hid hlt
        generalize revI s.length j = pre at *
        obtain ⟨al, L, cL, rfl, hLn⟩ := owns_name hown
        have HLL := Lib.hid (show L = pre.length from hLn.out)
        have HPL := Lib.hid hpl
        have hLb : L ≤ 4 := by rw [HLL.out]; exact hpl
        have HO := Lib.hid hown
        have HCr := Lib.hid hC
        clear hown hC hLn hpl hq hlt hj
        go_wp2_with (refine wpList_append_own_any (by rfl) (.tmp 17) (.tmp 19) 22 (by rfl) w1.heap.size 3 i0 (.int .i64 0) 1 8 Try.underlying22 hi hz0 hz1 hz2 rfl (by decide) (.slice al L cL) pre.length (pre.map I) (by rfl) (World.ownsRow.alloc HO.out _) (some ⟨wr.heap.size, 0, none⟩) 1 1 [.int .i64 q] (by rfl) rfl (fun j u hu => ⟨_, rfl, cell_one_new wr _ _ j u hu⟩) (by simp [Value.oneCell']) (by have := HPL.out; unfold maxLen; omega) (by have := HPL.out; omega) (by simp; omega) ?_; intro v2 w2 hown2 hg2 _ hO2; have hC2 : Chg (fun _ => False) w1 w2 := ((HCr.out.alloc _).grown hg2 (fun k e => .inr (HO.out.lt k e).1)); have O2 := Lib.hid (own_snoc hown2 rfl); obtain ⟨al2, L2, cl2, rfl, hL2⟩ := owns_name O2.out)
        go_roundw
        case rel => exact ⟨j + 1, q - 1, HLT.out, by have := HQ.out; omega, rfl, by rw [HTK.out]; exact O2.out, hC2⟩
        case measure =>
          simp [intOf]
          omega
      · obtain rfl : j = s.length := by omega
        have hqn : q < 0 := by omega
        have hqn' : ¬ (0 : Int) ≤ q := by omega
        rw [revI_full] at hown
        have hax := r14axes_any _ _ s (aboP s.length) wr hown.ls (HS.out.fr (HC1.out.tr hC)) HSH.out (aboP_perm _)
        obtain ⟨al, L, cL, rfl, hLn⟩ := owns_name hown
        have HCr := Lib.hid (HC1.out.tr hC)
        have HRr := Lib.hid (HR1.out.fr hC)
        have hsr : w.heap.size < wr.heap.size := HRr.out.lt
        have HSR := Lib.hid hsr
        clear hown hC hLn hq hlt hj hsr
        go_wp2_with fail
        refine hax.mono ?_
        clear hax
        rintro e9 w5 ⟨vs, vo, vp, rfl, hG, hC5⟩
        simp only at hG
        obtain ⟨as1, Ls1, cs1, rfl, _⟩ := owns_name hG.os
        obtain ⟨ao1, Lo1, co1, rfl, _⟩ := owns_name hG.oo
        obtain ⟨ap1, Lp1, cp1, rfl, _⟩ := owns_name hG.op
        obtain ⟨z0, z1, z2, x0', x1', x2'⟩ := HRr.out.fr hC5
        obtain ⟨⟨g0, g1⟩, g2⟩ := set3_cells (.slice as1 Ls1 cs1) (.slice ao1 Lo1 co1) (.slice ap1 Lp1 cp1) z0 z1 z2
        have HG := Lib.hid hG
        have HC5 := Lib.hid (HCr.out.tr hC5)
        clear hG hC5
        go_wp2
        simp [bodyPost, results, Try.results20, go_sem, g0, g1, g2]
        rw [HR.out]
        exact leaveG HG.out (fun q hq => by have := (HG.out.os.lt q hq).1; have := HSR.out; omega) (fun q hq => by have := (HG.out.oo.lt q hq).1; have := HSR.out; omega) (fun q hq => by have := (HG.out.op.lt q hq).1; have := HSR.out; omega) (Nat.le_refl _) HC5.out
end Go.Proofs.Ytmmbdhfljabefaa
