/- mold: reshape's way. -/
import Derived.Test.YtceooipljhjpaaaMdG
import Derived.Test.YtceooipljhjpaaaMdD
namespace Go.Proofs.Ytceooipljhjpaaa
open Go.RowKit Go.Shelf

def rsP (m : Int) (i : Int) : Int × Int := if m = 0 then (-1, 0) else (0, i % m)
def negB (x : Int) : Bool := decide (x < 0)
def rsS (L : Ar) : List Int := L.e.map lenC
def rsG (L : Ar) (s : List Int) : List (Int × Int) := (List.range (cntN (rsS L)).toNat).map fun (i : Nat) => rsP (cntN s) (i : Int)
def rsW (L : Ar) (s : List Int) : Wy := if shB s then (if lstE L = 0 then (if L.e.any negB then noW 5 else limW (rsS L) (rsG L s)) else noW (lstE L)) else noW 110
theorem neg_any (x : Int) (w : World) : Calls Try.prog 59 #[.int .i64 x] w (GaveBo w (negB x)) := by
  obtain ⟨b, hb⟩ : ∃ b, decide (x < 0) = b := ⟨_, rfl⟩
  rw [show negB x = b from hb]
  go_enter Try.func59, Try.ntmps59
  go_wp2
  go_ret
  exact ⟨rfl, Chg.refl _ _⟩
theorem rsFn_any (b : Nat) (m : Int) (i : Nat) (w : World) (hm : 0 ≤ m ∧ m ≤ 4096) (hi : (i : Int) ≤ 4096) (x0 : w.cell? ⟨b, 0, none⟩ = some (.int .i64 m)) : Calls Try.prog 63 (#[.int .i64 i] ++ #[.pointer (some ⟨b, 0, none⟩)]) w (GaveII w (rsP m i).1 (rsP m i).2) := by
  by_cases h : m = 0
  · have b1 : (m == 0) = true := beq_iff_eq.2 h
    rw [show rsP m i = (-1, 0) from if_pos h]
    clear h hm hi
    go_enter Try.func63, Try.ntmps63
    go_wp2
    go_ret2
    exact ⟨rfl, Chg.refl _ _⟩
  · have b1 : (m == 0) = false := beq_eq_false_iff_ne.2 h
    rw [show rsP m i = (0, (i : Int) % m) from if_neg h]
    obtain ⟨r, hr⟩ : ∃ r, (i : Int) % m = r := ⟨_, rfl⟩
    have hr0 : 0 ≤ r := by rw [← hr]; exact Int.emod_nonneg _ h
    have hr1 : r < m := by rw [← hr]; exact Int.emod_lt_of_pos _ (by omega)
    have e2 : Int.tmod (i : Int) m = r := by rw [Int.tmod_eq_emod_of_nonneg (by omega)]; exact hr
    have w2 : IntKind.i64.wrap r = r := IntWalk.i64_in _ (by omega)
    rw [hr]
    clear hr hr0 hr1 hm hi
    go_enter Try.func63, Try.ntmps63
    go_wp2
    go_region
    all_goals
      go_wp2
      go_ret2
      exact ⟨rfl, (Chg.refl _ _).drew⟩
theorem rs_fnAt (L : Ar) (s : List Int) (w : World) (D : Nat → Prop) (b : Nat) (hb : D b) (x0 : w.cell? ⟨b, 0, none⟩ = some (.int .i64 (cntN s))) : FnAt w D 63 #[.pointer (some ⟨b, 0, none⟩)] (rsG L s) := by
  refine ⟨fun _ _ => rfl, fun i x hx w' hO => ?_⟩
  unfold rsG at hx
  rw [List.getElem?_map, Option.map_eq_some_iff] at hx
  obtain ⟨j, hj, rfl⟩ := hx
  rw [List.getElem?_eq_some_iff] at hj
  obtain ⟨hj1, hj2⟩ := hj
  rw [List.getElem_range] at hj2
  subst hj2
  rw [List.length_range] at hj1
  have h1 := cntN_bd (rsS L)
  exact rsFn_any b (cntN s) i w' (cntN_bd s) (by omega) (hO.cell x0 hb)
set_option maxRecDepth 100000 in
set_option maxHeartbeats 2000000 in
theorem reshway_any (u v : Value) (L : Ar) (s : List Int) (w : World) (hL : Ara w u L) (hS : Ls w v s) (hle : L.e.length ≤ 1000000) : Calls Try.prog 14 #[u, v] w (GaveW w (rsW L s)) := by
  have hL' := hL
  obtain ⟨k, t, e⟩ := L
  obtain ⟨vt, ve, rfl, ht, he⟩ := hL
  simp only at ht he hle
  obtain ⟨ta, ct, rfl, _⟩ := ht.form
  obtain ⟨ae, ce, rfl, _⟩ := he.form
  obtain ⟨as_, cs, rfl, _⟩ := hS.form
  have hC0 := ((Chg.refl (fun _ => False) w).alloc (.cells #[.int .i64 k, .slice ta t.length ct, .slice ae e.length ce] 25)).alloc (.cells #[.slice none 0 0, .nilFunc] 31)
  have z0 := new_cell (w.alloc (.cells #[.int .i64 k, .slice ta t.length ct, .slice ae e.length ce] 25)) #[.slice none 0 0, .nilFunc] 31 (i := 0) rfl
  have z1 := new_cell (w.alloc (.cells #[.int .i64 k, .slice ta t.length ct, .slice ae e.length ce] 25)) #[.slice none 0 0, .nilFunc] 31 (i := 1) rfl
  have f0 := new_frozen (w.alloc (.cells #[.int .i64 k, .slice ta t.length ct, .slice ae e.length ce] 25)) #[.slice none 0 0, .nilFunc] 31 0
  have f1 := new_frozen (w.alloc (.cells #[.int .i64 k, .slice ta t.length ct, .slice ae e.length ce] 25)) #[.slice none 0 0, .nilFunc] 31 1
  rw [World.size_alloc] at z0 z1 f0 f1
  obtain ⟨y0, y1, y2⟩ := cell_two w (.int .i64 k) (.slice ta t.length ct) (.slice ae e.length ce) 25
  replace y0 := alloc_cell y0 (.cells #[.slice none 0 0, .nilFunc] 31)
  replace y1 := alloc_cell y1 (.cells #[.slice none 0 0, .nilFunc] 31)
  replace y2 := alloc_cell y2 (.cells #[.slice none 0 0, .nilFunc] 31)
  have hls := mlist_any _ ⟨k, t, e⟩ _ (hL'.fr hC0) hle
  unfold GaveLE at hls
  have HC0 := Lib.hid hC0
  have HS := Lib.hid hS
  have HW := Lib.hid (show rsW ⟨k, t, e⟩ s = if shB s then (if lstE ⟨k, t, e⟩ = 0 then (if e.any negB then noW 5 else limW (rsS ⟨k, t, e⟩) (rsG ⟨k, t, e⟩ s)) else noW (lstE ⟨k, t, e⟩)) else noW 110 from rfl)
  have HLL := Lib.hid (show lstE ⟨k, t, e⟩ = 0 → lstL ⟨k, t, e⟩ = e from fun h => by unfold lstL; rw [if_pos h])
  obtain ⟨N, hN⟩ : ∃ N, lstE ⟨k, t, e⟩ = N := ⟨_, rfl⟩
  obtain ⟨X, hX⟩ : ∃ X, lstL ⟨k, t, e⟩ = X := ⟨_, rfl⟩
  rw [hN] at hls HW HLL
  rw [hX] at hls HLL
  have HLE := Lib.hid hle
  clear hC0 hL' ht he hS hN hX hle
  go_enter Try.func14, Try.ntmps14
  go_wp2_with fail
  refine hls.mono ?_
  clear hls
  rintro e9 w1 ⟨v1, rfl, ho1, hC1⟩
  obtain ⟨a1, c1, rfl⟩ := own_name ho1
  have hc := count_any _ s w1 (HS.out.fr (HC0.out.tr hC1))
  unfold GaveC at hc
  replace f0 := hC1.frozen z0 f0 id
  replace f1 := hC1.frozen z1 f1 id
  replace z0 := hC1.cell z0 id
  replace z1 := hC1.cell z1 id
  replace HC0 := Lib.hid (HC0.out.tr hC1)
  have HO1 := Lib.hid ho1
  clear hC1 ho1
  go_wp2_with fail
  refine hc.mono ?_
  clear hc
  rintro e9 w2 ⟨rfl, rfl⟩
  have hsz : w.heap.size + 1 < w2.heap.size := cell_lt z0
  cases hsh : shB s with
  | false =>
    have HR := Lib.hid (show rsW ⟨k, t, e⟩ s = noW 110 by rw [HW.out, hsh]; rfl)
    rw [cntE_not hsh]
    clear hsh
    obtain ⟨g0, g1⟩ := mset2 (.slice none 0 0) .nilFunc z0 z1
    replace g0 := alloc_cell g0 (.cells #[.int .i64 (cntN s)] 3)
    replace g1 := alloc_cell g1 (.cells #[.int .i64 (cntN s)] 3)
    go_wp2
    simp [bodyPost, results, Try.results14, go_sem, g0, g1]
    rw [HR.out]
    obtain ⟨v9, D9, e9, o9, k9, c9⟩ := mway_no (D0 := fun _ => False) (w := w) (rb := w.heap.size + 1) (n := 110) (by decide) (Nat.le_succ _) HC0.out
    exact ⟨v9, D9, e9, o9.fr ((Chg.refl _ _).alloc _), k9, c9.alloc _⟩
  | true =>
    rw [cntE_ok hsh]
    by_cases hN0 : N = 0
    · subst hN0
      have hXe := HLL.out rfl
      subst hXe
      have HW2 := Lib.hid (show rsW ⟨k, t, X⟩ s = if X.any negB then noW 5 else limW (rsS ⟨k, t, X⟩) (rsG ⟨k, t, X⟩ s) by rw [HW.out, hsh, if_pos rfl, if_pos rfl])
      have hCm := (Chg.refl (fun _ => False) w2).alloc (.cells #[.int .i64 (cntN s)] 3)
      have hmy := new_cell w2 #[.int .i64 (cntN s)] 3 (i := 0) rfl
      have hcf := containsF_any 59 #[] (enters_of Try.func59 (by kernel_rfl) rfl) negB _ X _ (HO1.out.ls.fr hCm) HLE.out (fun x _ w' _ => neg_any x w')
      have HB := Lib.hid (cntN_bd s)
      obtain ⟨mm, hmm⟩ : ∃ mm, cntN s = mm := ⟨_, rfl⟩
      have HMM := Lib.hid hmm
      rw [hmm] at hCm hmy hcf ⊢
      replace f0 := hCm.frozen z0 f0 id
      replace f1 := hCm.frozen z1 f1 id
      replace z0 := hCm.cell z0 id
      replace z1 := hCm.cell z1 id
      replace HC0 := Lib.hid (HC0.out.tr hCm)
      obtain ⟨p, hp⟩ : ∃ p, w2.heap.size = p := ⟨_, rfl⟩
      rw [hp] at hmy hsz
      have HSZ := Lib.hid hsz
      have HO2 := Lib.hid (HO1.out.ls.fr hCm)
      clear hsh hCm hmm hsz
      cases hany : X.any negB with
      | true =>
        have HR := Lib.hid (show rsW ⟨k, t, X⟩ s = noW 5 by rw [HW2.out, hany]; rfl)
        rw [hany] at hcf
        clear hany
        go_wp2_with fail
        refine hcf.mono ?_
        clear hcf
        rintro e9 w3 ⟨rfl, hC3⟩
        replace f0 := hC3.frozen z0 f0 id
        replace f1 := hC3.frozen z1 f1 id
        replace z0 := hC3.cell z0 id
        replace z1 := hC3.cell z1 id
        have HC := Lib.hid (HC0.out.tr hC3)
        clear hC3 hp
        obtain ⟨g0, g1⟩ := mset2 (.slice none 0 0) .nilFunc z0 z1
        go_wp2
        simp [bodyPost, results, Try.results14, go_sem, g0, g1]
        rw [HR.out]
        exact mway_no (by decide) (Nat.le_succ _) HC.out
      | false =>
        have HR := Lib.hid (show rsW ⟨k, t, X⟩ s = limW (rsS ⟨k, t, X⟩) (rsG ⟨k, t, X⟩ s) by rw [HW2.out, hany]; rfl)
        rw [hany] at hcf
        clear hany
        go_wp2_with fail
        refine hcf.mono ?_
        clear hcf
        rintro e9 w3 ⟨rfl, hC3⟩
        replace f0 := hC3.frozen z0 f0 id
        replace f1 := hC3.frozen z1 f1 id
        replace z0 := hC3.cell z0 id
        replace z1 := hC3.cell z1 id
        replace hmy := hC3.cell hmy id
        replace HC0 := Lib.hid (HC0.out.tr hC3)
        have HO3 := Lib.hid (HO2.out.fr hC3)
        clear hC3
        have hle1 := lengths_any a1 X.length c1 w3
        go_wp2_with fail
        refine hle1.mono ?_
        clear hle1
        rintro e9 w4 ⟨rfl, hw4⟩
        have hC4 : Chg (fun _ => False) w3 w4 := by rw [hw4]; exact (Chg.refl _ w3).alloc _
        have hr4 : w4.cell? ⟨w3.heap.size, 0, none⟩ = some (.slice a1 X.length c1) := by rw [hw4]; exact new_cell w3 _ _ rfl
        clear hw4
        have hcol := collect_any 97 #[.pointer (some ⟨w3.heap.size, 0, none⟩)] (enters_of Try.func97 (by kernel_rfl) rfl) (X.map lenC) (fun pre => ∃ q, q < X.length ∧ pre = (X.map lenC).take (q + 1)) (fun q => q < w3.heap.size) X.length w4 (by rw [List.length_map]; exact HLE.out) HLE.out (fun q hq => by have := hC4.size; omega)
          (fun w' h => lengths_seq w3.heap.size w3.heap.size a1 X.length c1 X rfl HLE.out w3 w' rfl HO3.out (hC4.tr h).size (fun q hq => (hC4.tr h).block q hq id) (h.cell hr4 id))
        replace f0 := hC4.frozen z0 f0 id
        replace f1 := hC4.frozen z1 f1 id
        replace z0 := hC4.cell z0 id
        replace z1 := hC4.cell z1 id
        replace hmy := hC4.cell hmy id
        replace HC0 := Lib.hid (HC0.out.tr hC4)
        clear hC4 hr4
        have HPL := Lib.hid (show w.heap.size + 1 < w4.heap.size from cell_lt z0)
        go_wp2_with fail
        refine hcol.mono ?_
        clear hcol
        rintro e9 w5 ⟨v5, rfl, ho5, hC5⟩
        obtain ⟨a5, L5, c5, rfl, hL5⟩ := owns_name (show World.ownsRow _ _ _ _ _ _ _ from ho5)
        replace f0 := hC5.frozen z0 f0 id
        replace f1 := hC5.frozen z1 f1 id
        replace z0 := hC5.cell z0 id
        replace z1 := hC5.cell z1 id
        replace hmy := hC5.cell hmy id
        replace HC0 := Lib.hid (HC0.out.tr hC5)
        have hsz4 := HPL.out
        have HS5 := Lib.hid (show w.heap.size + 1 < w5.heap.size from cell_lt z0)
        have hlim := limited_any (fun q => w.heap.size + 1 < q ∧ q < w5.heap.size) 63 #[.pointer (some ⟨p, 0, none⟩)] (rsG ⟨k, t, X⟩ s) _ (X.map lenC) w5 ho5.ls (fun q hq => by have := ho5.lt q hq; omega) (fun q hq => hq.2) (fun _ => rs_fnAt ⟨k, t, X⟩ s w5 _ p ⟨HSZ.out, cell_lt hmy⟩ (by rw [HMM.out]; exact hmy))
        clear hC5 ho5 hsz4 hmy
        go_wp2_with fail
        refine hlim.mono ?_
        clear hlim
        rintro e9 w9 ⟨v9, D9, rfl, hW9, hD9, hC9⟩
        obtain ⟨V0, V1, rfl, hv0, hv1⟩ := mway_agg hW9
        have st0 := fun (a : Addr) (m : Mode) (w : World) => run_store Try.prog w a V0 m hv0
        have st1 := fun (a : Addr) (m : Mode) (w : World) => run_store Try.prog w a V1 m hv1
        replace f0 := hC9.frozen z0 f0 id
        replace f1 := hC9.frozen z1 f1 id
        replace z0 := hC9.cell z0 id
        replace z1 := hC9.cell z1 id
        obtain ⟨g0, g1⟩ := mset2 V0 V1 z0 z1
        have HW9 := Lib.hid hW9
        have HD9 := Lib.hid hD9
        have HC9 := Lib.hid (HC0.out.tr hC9)
        clear hW9 hD9 hC9
        go_wp2
        simp [bodyPost, results, Try.results14, go_sem, g0, g1]
        rw [HR.out]
        have hdd : ∀ k, D9 k → w.heap.size + 1 < k := fun k hk => by
          rcases HD9.out k hk with h | h
          · exact h.1
          · have := HS5.out
            omega
        exact mway_store (x := w.heap.size) HW9.out (fun k hk => .inr (by have := hdd k hk; omega)) (Nat.le_refl _) (Nat.le_succ _) (fun hk => absurd (hdd _ hk) (Nat.lt_irrefl _)) HC9.out rfl
    · have HR := Lib.hid (show rsW ⟨k, t, e⟩ s = noW N by rw [HW.out, hsh, if_pos rfl, if_neg hN0])
      have b1 : (N != 0) = true := bne_iff_ne.2 hN0
      have HN0 := Lib.hid hN0
      clear hsh hN0
      obtain ⟨g0, g1⟩ := mset2 (.slice none 0 0) .nilFunc z0 z1
      replace g0 := alloc_cell g0 (.cells #[.int .i64 (cntN s)] 3)
      replace g1 := alloc_cell g1 (.cells #[.int .i64 (cntN s)] 3)
      go_wp2
      simp [bodyPost, results, Try.results14, go_sem, g0, g1]
      rw [HR.out]
      obtain ⟨v9, D9, e9, o9, k9, c9⟩ := mway_no (D0 := fun _ => False) (w := w) (rb := w.heap.size + 1) (n := N) HN0.out (Nat.le_succ _) HC0.out
      exact ⟨v9, D9, e9, o9.fr ((Chg.refl _ _).alloc _), k9, c9.alloc _⟩
end Go.Proofs.Ytceooipljhjpaaa
