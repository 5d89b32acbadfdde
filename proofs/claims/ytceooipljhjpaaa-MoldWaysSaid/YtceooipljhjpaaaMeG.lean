/- The document: a list and a shape. -/
import Derived.Test.YtceooipljhjpaaaArX
import Derived.Deep.RegionLaw
namespace Go.Proofs.Ytceooipljhjpaaa
open Go.RowKit Go.Shelf

def bthE (L : Ar) (s : List Int) : Int := if shB s then lstE L else 110
def bthL (L : Ar) (s : List Int) : List Int := if bthE L s = 0 then L.e else []
set_option maxHeartbeats 400000 in
theorem r13both_any (u v : Value) (L : Ar) (s : List Int) (w : World) (hL : Ara w u L) (hS : Ls w v s) (hle : L.e.length ≤ 1000000) : Calls Try.prog 73 #[u, v] w (GaveLE w (bthL L s) (bthE L s)) := by
  have hL' := hL
  obtain ⟨vs, ve, rfl, hs, he⟩ := hL
  obtain ⟨sa, cs, rfl, _⟩ := hs.form
  obtain ⟨ae, ce, rfl, _⟩ := he.form
  obtain ⟨ao, c, rfl, _⟩ := hS.form
  have hC0 := (Chg.refl (fun _ => False) w).alloc (.cells #[.int .i64 L.k, .slice sa L.s.length cs, .slice ae L.e.length ce] 25)
  have x0 := new_cell w #[.int .i64 L.k, .slice sa L.s.length cs, .slice ae L.e.length ce] 25 (i := 0) rfl
  have x1 := new_cell w #[.int .i64 L.k, .slice sa L.s.length cs, .slice ae L.e.length ce] 25 (i := 1) rfl
  have x2 := new_cell w #[.int .i64 L.k, .slice sa L.s.length cs, .slice ae L.e.length ce] 25 (i := 2) rfl
  have hcnt := r11count_any _ s _ (hS.fr hC0)
  have hck := r11check_any _ L _ (hL'.fr hC0) hle
  have hls := fun w' h => r13list_any _ L w' (hL'.fr (hC0.tr h)) hle
  unfold GaveC at hcnt
  cases hc : chkB L with
  | false =>
    have HR := Lib.hid (show bthE L s = 110 ∧ bthL L s = [] by
      have h : bthE L s = 110 := by
        unfold bthE lstE
        rw [hc]
        split <;> rfl
      exact ⟨h, by unfold bthL; rw [h]; rfl⟩)
    rw [show chkE L = 110 by unfold chkE; rw [hc]; rfl] at hck
    generalize cntN s = C at *
    generalize cntE s = E at *
    clear hs he hc hls hL' hS
    go_enter Try.func73, Try.ntmps73
    go_wp2_with fail
    refine hcnt.mono ?_
    clear hcnt
    rintro e9 w1 ⟨rfl, rfl⟩
    go_wp2_with fail
    refine hck.mono ?_
    clear hck
    rintro e9 w1 ⟨rfl, hC1⟩
    go_wp2
    go_ret2
    rw [HR.out.1, HR.out.2]
    exact ⟨_, rfl, Own.nil _ _ _, hC0.tr hC1⟩
  | true =>
    rw [show chkE L = 0 by unfold chkE; rw [hc]; rfl] at hck
    rcases cntE_cases s with ⟨h1, h2, h3⟩ | ⟨h1, h2, h3⟩
    · have HR := Lib.hid (show bthE L s = lstE L ∧ bthL L s = lstL L by
        have h : bthE L s = lstE L := by unfold bthE; rw [h1]; rfl
        exact ⟨h, by unfold bthL lstL; rw [h]⟩)
      rw [h2] at hcnt
      generalize cntN s = C at *
      clear hs he hc hL' hS h1 h2 h3
      go_enter Try.func73, Try.ntmps73
      go_wp2_with fail
      refine hcnt.mono ?_
      clear hcnt
      rintro e9 w1 ⟨rfl, rfl⟩
      go_wp2_with fail
      refine hck.mono ?_
      clear hck
      rintro e9 w1 ⟨rfl, hC1⟩
      replace x0 := hC1.cell x0 id
      replace x1 := hC1.cell x1 id
      replace x2 := hC1.cell x2 id
      have hl1 := hls _ hC1
      clear hls
      go_wp2_with fail
      refine hl1.mono ?_
      clear hl1 x0 x1 x2
      rintro e9 w2 ⟨v2, rfl, ho, hC2⟩
      go_wp2
      go_ret2
      rw [HR.out.1, HR.out.2]
      exact ⟨_, rfl, ho.mono (by have := (hC0.tr hC1).size; omega), (hC0.tr hC1).tr hC2⟩
    · have HR := Lib.hid (show bthE L s = 110 ∧ bthL L s = [] by
        have h : bthE L s = 110 := by unfold bthE; rw [h1]; rfl
        exact ⟨h, by unfold bthL; rw [h]; rfl⟩)
      rw [h2] at hcnt
      generalize cntN s = C at *
      clear hs he hc hls hL' hS h1 h2 h3
      go_enter Try.func73, Try.ntmps73
      go_wp2_with fail
      refine hcnt.mono ?_
      clear hcnt
      rintro e9 w1 ⟨rfl, rfl⟩
      go_wp2_with fail
      refine hck.mono ?_
      clear hck
      rintro e9 w1 ⟨rfl, hC1⟩
      go_wp2
      go_ret2
      rw [HR.out.1, HR.out.2]
      exact ⟨_, rfl, Own.nil _ _ _, hC0.tr hC1⟩
def lenP (n : Int) : Int := if 4096 < n then 4097 else n
theorem r13length_any (n : Int) (w : World) : Calls Try.prog 74 #[.int .i64 n] w (fun e w' => e = .returned (.int .i64 (lenP n)) ∧ w' = w) := by
  by_cases h : 4096 < n
  · have HR := Lib.hid (show lenP n = 4097 from if_pos h)
    go_enter Try.func74, Try.ntmps74
    go_wp2
    go_ret
    exact ⟨by rw [HR.out]; rfl, rfl⟩
  · have HR := Lib.hid (show lenP n = n from if_neg h)
    go_enter Try.func74, Try.ntmps74
    go_wp2
    go_ret
    exact ⟨by rw [HR.out]; rfl, rfl⟩
end Go.Proofs.Ytceooipljhjpaaa
