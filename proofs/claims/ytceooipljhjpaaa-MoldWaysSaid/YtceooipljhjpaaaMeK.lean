/- The document's take and drop, walked. -/
import Derived.Test.YtceooipljhjpaaaMeJ
import Derived.Test.YtceooipljhjpaaaMeH
import Derived.Test.YtceooipljhjpaaaMeC
namespace Go.Proofs.Ytceooipljhjpaaa
open Go.RowKit Go.Shelf

theorem bth_sp {L : Ar} {s : List Int} (h : bthE L s ≠ 0) : spN L s = bthE L s := by
  unfold spN
  unfold bthE at h ⊢
  split
  · rename_i q
    rw [if_pos q] at h
    rw [if_neg h]
  · rfl
theorem bth_tk {L : Ar} {s : List Int} (h : bthE L s ≠ 0) : tkW L s = noW (bthE L s) := by
  unfold tkW
  rw [bth_sp h, if_neg h]
theorem bth_dr {L : Ar} {s : List Int} (h : bthE L s ≠ 0) : drW L s = noW (bthE L s) := by
  unfold drW
  rw [bth_sp h, if_neg h]
theorem sp_len {L : Ar} {s : List Int} (h : bthE L s = 0) : spN L s = if L.e.length = (spS s).length then 0 else 4 := by
  obtain ⟨h1, h2, _⟩ := bth_ok h
  unfold spN
  rw [if_pos h1, if_pos h2]
theorem tk_len {L : Ar} {s : List Int} (h : bthE L s = 0) (hl : ¬ L.e.length = (spS s).length) : tkW L s = noW 4 := by
  unfold tkW
  rw [sp_len h, if_neg hl, if_neg (by decide)]
theorem dr_len {L : Ar} {s : List Int} (h : bthE L s = 0) (hl : ¬ L.e.length = (spS s).length) : drW L s = noW 4 := by
  unfold drW
  rw [sp_len h, if_neg hl, if_neg (by decide)]
def tkA (m n : Int) : Int := (takeF m n).a
def tkL (m n : Int) : Int := (takeF m n).l
theorem tk_bad {L : Ar} {s : List Int} (h : bthE L s = 0) (hl : L.e.length = (spS s).length) {j : Nat} (hj : j < L.e.length) (hx : 4096 < L.e[j] ∨ L.e[j] < -4096) : tkW L s = noW 9 := by
  unfold tkW
  have h0 : spN L s = 0 := by rw [sp_len h, if_pos hl]
  rw [if_pos h0]
  unfold wiW limW
  have hj2 : j < ((spF takeF L s).map Spn.l).length := by rw [List.length_map, spF_len h0, ← hl]; exact hj
  have e : ((spF takeF L s).map Spn.l)[j] = 4097 := by
    simp only [spF, if_pos h0, List.getElem_map, List.getElem_zipWith, rsS]
    unfold lenC
    rw [if_pos hx]
    rfl
  rw [if_neg (by rw [shB_bad hj2 (.inr (by rw [e]; decide))]; decide)]
theorem tk_ok {L : Ar} {s : List Int} (h : bthE L s = 0) (hl : L.e.length = (spS s).length) (hx : ∀ x ∈ L.e, -4096 ≤ x ∧ x ≤ 4096) : tkW L s = winW (spS s) (List.zipWith tkA (spS s) L.e) (List.zipWith tkL (spS s) L.e) := by
  have h0 : spN L s = 0 := by rw [sp_len h, if_pos hl]
  have hr : rsS L = L.e := by
    unfold rsS
    conv => rhs; rw [← List.map_id L.e]
    exact List.map_congr_left fun x hq => by
      have := hx x hq
      unfold lenC
      rw [if_neg (by omega)]
      rfl
  have hh : (spF takeF L s).map Spn.h = spS s := spF_h (fun m n => by unfold takeF; split <;> rfl) h0
  have e := win_wi (l := spF takeF L s) (by rw [hh]; exact (by
    have := (bth_ok h).1
    unfold spS
    split
    · rfl
    · exact this))
  unfold tkW
  rw [if_pos h0, ← e, hh]
  unfold spF
  rw [if_pos h0, hr, zw_map, zw_map]
  rfl
def drA (m n : Int) : Int := if m ≤ n ∨ n ≤ -m then 0 else if n < 0 then 0 else n
def drL (m n : Int) : Int := if m ≤ n ∨ n ≤ -m then 0 else if n < 0 then m + n else m - n
theorem lenC_big {n : Int} (h : 4096 < n ∨ n < -4096) : lenC n = 4097 := if_pos h
theorem lenC_fit {n : Int} (h : ¬ (4096 < n ∨ n < -4096)) : lenC n = n := if_neg h
theorem dr_l {m n : Int} (hm : 0 ≤ m ∧ m ≤ 4096) : (dropF m (lenC n)).l = drL m n := by
  by_cases h : 4096 < n ∨ n < -4096
  · rw [lenC_big h]
    unfold dropF drL
    rw [if_neg (by decide), if_pos (by omega)]
    simp only
    omega
  · rw [lenC_fit h]
    by_cases h3 : n < 0
    · rw [show (dropF m n).l = max 0 (m + n) by unfold dropF; rw [if_pos h3]]
      unfold drL
      by_cases h2 : m ≤ n ∨ n ≤ -m
      · rw [if_pos h2]; omega
      · rw [if_neg h2, if_pos h3]; omega
    · rw [show (dropF m n).l = max 0 (m - n) by unfold dropF; rw [if_neg h3]]
      unfold drL
      by_cases h2 : m ≤ n ∨ n ≤ -m
      · rw [if_pos h2]; omega
      · rw [if_neg h2, if_neg h3]; omega
theorem dr_a {m n : Int} (hm : 0 ≤ m ∧ m ≤ 4096) (h0 : drL m n ≠ 0) : (dropF m (lenC n)).a = drA m n := by
  unfold drL at h0
  by_cases h2 : m ≤ n ∨ n ≤ -m
  · rw [if_pos h2] at h0
    exact absurd rfl h0
  · rw [lenC_fit (by omega)]
    unfold drA
    rw [if_neg h2]
    by_cases h3 : n < 0
    · rw [if_pos h3]
      unfold dropF
      rw [if_pos h3]
    · rw [if_neg h3]
      unfold dropF
      rw [if_neg h3]
      simp only
      omega
theorem dr_ok {L : Ar} {s : List Int} (h : bthE L s = 0) (hl : L.e.length = (spS s).length) : drW L s = winW (spS s) (List.zipWith drA (spS s) L.e) (List.zipWith drL (spS s) L.e) := by
  have h0 : spN L s = 0 := by rw [sp_len h, if_pos hl]
  have hss : shB (spS s) = true := by
    have := (bth_ok h).1
    unfold spS
    split
    · rfl
    · exact this
  have hb := (shB_iff.1 hss).2.1
  have hh : (spF dropF L s).map Spn.h = spS s := spF_h (fun m n => by unfold dropF; split <;> rfl) h0
  have e := win_wi (l := spF dropF L s) (by rw [hh]; exact hss)
  have hL : (spF dropF L s).map Spn.l = List.zipWith drL (spS s) L.e := by
    unfold spF
    rw [if_pos h0, zw_map]
    apply List.ext_getElem
    · simp [rsS]
    · intro i h1 h2
      simp only [List.getElem_zipWith, rsS, List.getElem_map]
      exact dr_l (hb _ (List.getElem_mem _))
  unfold drW
  rw [if_pos h0, ← e, hh, hL]
  apply win_from
  by_cases hz : (0 : Int) ∈ List.zipWith drL (spS s) L.e
  · exact .inl hz
  · right
    unfold spF
    rw [if_pos h0, zw_map]
    apply List.ext_getElem
    · simp [rsS]
    · intro i h1 h2
      have h3 : i < (List.zipWith drL (spS s) L.e).length := by simpa using h2
      have h4 : (List.zipWith drL (spS s) L.e)[i] ≠ 0 := fun h => hz (h ▸ List.getElem_mem h3)
      simp only [List.getElem_zipWith] at h4
      simp only [List.getElem_zipWith, rsS, List.getElem_map]
      exact dr_a (hb _ (List.getElem_mem _)) h4
theorem zw_take {f : Int → Int → Int} {xs ys : List Int} {j : Nat} (h1 : j < xs.length) (h2 : j < ys.length) : (List.zipWith f xs ys).take (j + 1) = (List.zipWith f xs ys).take j ++ [f xs[j] ys[j]] := by
  rw [List.take_succ_eq_append_getElem (by simp; omega)]
  simp
theorem zw_mem {f : Int → Int → Int} {xs ys : List Int} {P : Int → Prop} (h : ∀ x ∈ xs, ∀ y ∈ ys, P (f x y)) : ∀ z ∈ List.zipWith f xs ys, P z := by
  intro z hz
  obtain ⟨i, hi, rfl⟩ := List.getElem_of_mem hz
  simp only [List.getElem_zipWith]
  exact h _ (List.getElem_mem _) _ (List.getElem_mem _)
theorem spS_sh {s : List Int} (h : shB s = true) : shB (spS s) = true := by
  unfold spS
  split
  · rfl
  · exact h
set_option maxRecDepth 100000 in
set_option maxHeartbeats 4000000 in
theorem r13take_any (u v : Value) (L : Ar) (s : List Int) (w : World) (hL : Ara w u L) (hS : Ls w v s) (hle : L.e.length ≤ 1000000) : Calls Try.prog 20 #[u, v] w (GaveGO w (tkW L s)) := by
  obtain ⟨i0, hi, hz0, hz1, hz2⟩ := info_parts info_int
  have hL' := hL
  obtain ⟨vs, ve, rfl, hs, he⟩ := hL
  obtain ⟨sa, cs, rfl, _⟩ := hs.form
  obtain ⟨ae, ce, rfl, _⟩ := he.form
  obtain ⟨ao, c, rfl, _⟩ := hS.form
  have hC0 := ((Chg.refl (fun _ => False) w).alloc (.cells #[.int .i64 L.k, .slice sa L.s.length cs, .slice ae L.e.length ce] 25)).alloc (.cells #[.slice none 0 0, .slice none 0 0, .slice none 0 0] 39)
  have hR0 := Bx.new (w.alloc (.cells #[.int .i64 L.k, .slice sa L.s.length cs, .slice ae L.e.length ce] 25)) (.slice none 0 0) (.slice none 0 0) (.slice none 0 0) 39
  rw [World.size_alloc] at hR0
  have x0 := alloc_cell (new_cell w #[.int .i64 L.k, .slice sa L.s.length cs, .slice ae L.e.length ce] 25 (i := 0) rfl) (.cells #[.slice none 0 0, .slice none 0 0, .slice none 0 0] 39)
  have x1 := alloc_cell (new_cell w #[.int .i64 L.k, .slice sa L.s.length cs, .slice ae L.e.length ce] 25 (i := 1) rfl) (.cells #[.slice none 0 0, .slice none 0 0, .slice none 0 0] 39)
  have x2 := alloc_cell (new_cell w #[.int .i64 L.k, .slice sa L.s.length cs, .slice ae L.e.length ce] 25 (i := 2) rfl) (.cells #[.slice none 0 0, .slice none 0 0, .slice none 0 0] 39)
  have hbt := r13both_any _ _ L s _ (hL'.fr hC0) (hS.fr hC0) hle
  by_cases hE : bthE L s = 0
  · obtain ⟨hsh, hl0, hbl⟩ := bth_ok hE
    rw [hE, hbl] at hbt
    have HE0 := Lib.hid hE
    have HSS0 := Lib.hid (spS_sh hsh)
    have HS := Lib.hid (hS.fr hC0)
    clear hL' hS hs he hl0 hbl hE hsh
    go_enter Try.func20, Try.ntmps20
    go_wp2_with fail
    refine hbt.mono ?_
    clear hbt x0 x1 x2
    rintro e9 w1 ⟨v1, rfl, ho1, hC1⟩
    obtain ⟨a1, c1, rfl⟩ := own_name ho1
    have hR1 := hR0.fr hC1
    by_cases hs0 : s = []
    · have HTS := Lib.hid (show spS s = [1] by rw [hs0]; rfl)
      have e0 : ((s.length : Int) == 0) = true := by rw [hs0]; rfl
      have HS0 := Lib.hid hs0
      have HSS := Lib.hid (show shB [1] = true from rfl)
      have HTL := Lib.hid (show ([1] : List Int).length = 1 from rfl)
      have hCa := (Chg.refl (fun _ => False) w1).alloc (.cells #[.int .i64 1] 3)
      have HSB := Lib.hid ((own_lit w1 3 [1] 1 rfl #[.int .i64 1] rfl (by decide)).ls)
      have HXB := Lib.hid (ho1.ls.fr hCa)
      have HCB := Lib.hid ((hC0.tr hC1).tr hCa)
      have HRB := Lib.hid (hR1.fr hCa)
      clear ho1 hC0 hC1 hR0 hR1 HS hs0
      go_upto_region 6 with (fail)
      clear e0
      generalize w1.alloc (.cells #[.int .i64 1] 3) = wb at *
      generalize w1.heap.size = p1 at *
      generalize ([1] : List Int) = T at *
      clear hCa
      obtain ⟨sp, hsp⟩ : ∃ sp, (some ⟨p1, 0, none⟩ : Option Addr) = sp := ⟨_, rfl⟩
      rw [hsp] at HSB ⊢
      clear hsp
      by_cases hlen : L.e.length = 1
      · have HTE := Lib.hid (show T.length = L.e.length by rw [HTL.out]; exact hlen.symm)
        have b0 : ((L.e.length : Int) != 1) = false := by rw [bne_eq_false_iff_eq, hlen]; rfl
        clear hlen
        have hTs : spS s = T := HTS.out
        have HOK := Lib.hid (show (∀ x ∈ L.e, -4096 ≤ x ∧ x ≤ 4096) → tkW L s = winW T (List.zipWith tkA T L.e) (List.zipWith tkL T L.e) from fun h => by rw [← HTS.out]; exact tk_ok HE0.out (by rw [HTS.out]; exact HTE.out.symm) h)
        have HBA := Lib.hid (show ∀ j (hj : j < L.e.length), (4096 < L.e[j] ∨ L.e[j] < -4096) → tkW L s = noW 9 from fun j hj hx => tk_bad HE0.out (by rw [HTS.out]; exact HTE.out.symm) hj hx)
        obtain ⟨FR, hFR⟩ : ∃ FR, List.zipWith tkA T L.e = FR := ⟨_, rfl⟩
        obtain ⟨LG, hLG⟩ : ∃ LG, List.zipWith tkL T L.e = LG := ⟨_, rfl⟩
        have HN1 := Lib.hid (show ∀ j (hj : j < L.e.length) (hjT : j < T.length), FR.take (j + 1) = FR.take j ++ [tkA T[j] L.e[j]] from fun j hj hjT => by rw [← hFR]; exact zw_take hjT hj)
        have HN2 := Lib.hid (show ∀ j (hj : j < L.e.length) (hjT : j < T.length), LG.take (j + 1) = LG.take j ++ [tkL T[j] L.e[j]] from fun j hj hjT => by rw [← hLG]; exact zw_take hjT hj)
        have HFR := Lib.hid hFR
        have HLG := Lib.hid hLG
        have HFL := Lib.hid (show FR.length = L.e.length ∧ LG.length = L.e.length by rw [← hFR, ← hLG]; simp [HTE.out])
        have hz := Two.zero (w0 := wb)
        have HZ := Lib.hid hz
        clear hFR hLG hTs hz
        go_wp2
        go_loopw [8, 9, 10] (fun vf vl i wr => ∃ j : Nat, j ≤ L.e.length ∧ i = .int .i64 j ∧ (∀ x ∈ L.e.take j, -4096 ≤ x ∧ x ≤ 4096) ∧ Two wb wr wb.heap.size vf vl (FR.take j) (LG.take j)) (fun _ _ i _ => L.e.length - (intOf i).toNat)
        case atStart => exact ⟨0, Nat.zero_le _, rfl, (by simp), HZ.out⟩
        case round =>
          obtain ⟨j, hj, rfl, hinv, hT⟩ := hrel
          by_cases hlt : j < L.e.length
          · have hlt' : (j : Int) < (L.e.length : Int) := by omega
            have hj0 : (0 : Int) ≤ (j : Int) := by omega
            have hjT : j < T.length := by rw [HTE.out]; exact hlt
            have hjd : (j : Int) < 1 := by have := HTL.out; have := HTE.out; omega
            have hkw : IntKind.i64.wrap ((j : Int) + 1) = (j : Int) + 1 := IntWalk.i64_in _ (by omega)
            obtain ⟨b, o, c', e1, hcell⟩ := (HXB.out.fr hT.ch).at hlt
            injection e1 with e1 e2 e3
            clear e2 e3
            subst e1
            obtain ⟨b', o', c'', e1, hcT⟩ := (HSB.out.fr hT.ch).at hjT
            injection e1 with e1 e2 e3
            clear e2 e3
            subst e1
            have h1 := HN1.out j hlt hjT
            have h2 := HN2.out j hlt hjT
            have hbad := HBA.out j hlt
            have hmb := (shB_iff.1 HSS.out).2.1 _ (List.getElem_mem hjT)
            have hl1 : (FR.take j).length ≤ 1000000 := by rw [List.length_take]; omega
            have hl2 : (LG.take j).length ≤ 1000000 := by rw [List.length_take]; omega
            obtain ⟨x, hx⟩ : ∃ x, L.e[j] = x := ⟨_, rfl⟩
            obtain ⟨m, hm⟩ : ∃ m, T[j] = m := ⟨_, rfl⟩
            rw [hx] at hcell h1 h2 hbad
            rw [hm] at hcT h1 h2 hmb
            obtain ⟨fr, hfr⟩ : ∃ fr, FR.take j = fr := ⟨_, rfl⟩
            obtain ⟨lg, hlg⟩ : ∃ lg, LG.take j = lg := ⟨_, rfl⟩
            rw [hfr] at h1 hl1 hT
            rw [hlg] at h2 hl2 hT
            obtain ⟨fa, Lf, cf', rfl, hLf⟩ := own_nm hT.o1
            obtain ⟨ga, Lg, cg, rfl, hLg⟩ := own_nm hT.o2
            clear hLf hLg
            by_cases hb1 : 4096 < x
            · have HBD := Lib.hid (hbad (.inl hb1))
              have HCH := Lib.hid hT.ch
              clear hbad hinv hT h1 h2 hx hm hmb hl1 hl2 hfr hlg hlt hj hjT
              obtain ⟨z0, z1, z2, f0, f1, f2⟩ := HRB.out.fr HCH.out
              obtain ⟨⟨g0, g1⟩, g2⟩ := set3_cells (.slice none 0 0) (.slice none 0 0) (.slice none 0 0) z0 z1 z2
              clear hcT
              go_wp2
              simp [bodyPost, results, Try.results20, go_sem, g0, g1, g2]
              rw [HBD.out]
              exact gx_no (Nat.le_succ _) (HCB.out.tr HCH.out)
            · by_cases hb2 : x < -4096
              · have HBD := Lib.hid (hbad (.inr hb2))
                have HCH := Lib.hid hT.ch
                clear hbad hinv hT h1 h2 hx hm hmb hl1 hl2 hfr hlg hlt hj hjT
                obtain ⟨z0, z1, z2, f0, f1, f2⟩ := HRB.out.fr HCH.out
                obtain ⟨⟨g0, g1⟩, g2⟩ := set3_cells (.slice none 0 0) (.slice none 0 0) (.slice none 0 0) z0 z1 z2
                clear hcT
                go_wp2
                simp [bodyPost, results, Try.results20, go_sem, g0, g1, g2]
                rw [HBD.out]
                exact gx_no (Nat.le_succ _) (HCB.out.tr HCH.out)
              · have HIN := Lib.hid (show ∀ y ∈ L.e.take (j + 1), -4096 ≤ y ∧ y ≤ 4096 from fun y hy => by
                  rw [List.take_succ_eq_append_getElem hlt] at hy
                  rcases List.mem_append.1 hy with hy | hy
                  · exact hinv y hy
                  · rw [List.mem_singleton.1 hy, hx]; omega)
                by_cases hb3 : x < 0
                · have ha : tkA m x = m + x := by unfold tkA takeF; rw [if_pos ⟨hb3, by omega⟩]
                  have hl : tkL m x = -x := by unfold tkL takeF; rw [if_pos ⟨hb3, by omega⟩]
                  rw [ha] at h1
                  rw [hl] at h2
                  have H1 := Lib.hid h1
                  have H2 := Lib.hid h2
                  have HB1 := Lib.hid (app_fit hl1)
                  have HB2 := Lib.hid (app_fit hl2)
                  have HL1 := Lib.hid (fun (o : Obj) => le_al hT.ch.size o)
                  have HT := Lib.hid hT
                  have HLT := Lib.hid hlt
                  clear hbad hinv hT h1 h2 hx hm hl1 hl2 hfr hlg hlt hj hjT ha hl
                  go_wp2_with (first
                    | (refine wpList_append_own_any (by rfl) (.tmp 57) (.tmp 64) 22 (by rfl) wb.heap.size 3 i0 (.int .i64 0) 1 8 Try.underlying22 hi hz0 hz1 hz2 rfl (by decide) (.slice fa Lf cf') fr.length (fr.map I) (by rfl) (HT.out.o1.alloc _) (some ⟨wr.heap.size, 0, none⟩) 1 1 [.int .i64 (m + x)] (by rfl) rfl (fun j u hu => ⟨_, rfl, cell_one_new wr _ _ j u hu⟩) (by simp [Value.oneCell']) HB1.out.1 HB1.out.2 (HL1.out _) ?_; intro v4 w4 hown4 hg4 _ hO4; have hT4 := HT.out.one ((Chg.refl _ wr).alloc _) hg4 hown4 rfl hO4; clear hown4 hg4 hO4; obtain ⟨al4, L4, cl4, rfl, hL4⟩ := own_nm hT4.o1; have HT4 := Lib.hid hT4; have HL2 := Lib.hid (le_al (o := (.cells #[.int .i64 (-x)] 3)) hT4.ch.size); clear hT4 hL4)
                    | (refine wpList_append_own_any (by rfl) (.tmp 66) (.tmp 69) 22 (by rfl) wb.heap.size 3 i0 (.int .i64 0) 1 8 Try.underlying22 hi hz0 hz1 hz2 rfl (by decide) (.slice ga Lg cg) lg.length (lg.map I) (by rfl) (HT4.out.o2.alloc _) (some ⟨w4.heap.size, 0, none⟩) 1 1 [.int .i64 (-x)] (by rfl) rfl (fun j u hu => ⟨_, rfl, cell_one_new w4 _ _ j u hu⟩) (by simp [Value.oneCell']) HB2.out.1 HB2.out.2 HL2.out ?_; intro v5 w5 hown5 hg5 _ hO5; have hT5 := HT4.out.two ((Chg.refl _ w4).alloc _) hg5 hown5 rfl hO5; obtain ⟨al5, L5, cl5, rfl, hL5⟩ := own_nm hT5.o2))
                  go_roundw
                  case rel => exact ⟨j + 1, HLT.out, by go_num, HIN.out, by rw [H1.out, H2.out]; exact hT5⟩
                  case measure => exact fit_meas j L.e.length HLT.out
                · have ha : tkA m x = 0 := by unfold tkA takeF; rw [if_neg (by omega)]
                  have hl : tkL m x = x := by unfold tkL takeF; rw [if_neg (by omega)]
                  rw [ha] at h1
                  rw [hl] at h2
                  have H1 := Lib.hid h1
                  have H2 := Lib.hid h2
                  have HB1 := Lib.hid (app_fit hl1)
                  have HB2 := Lib.hid (app_fit hl2)
                  have HL1 := Lib.hid (fun (o : Obj) => le_al hT.ch.size o)
                  have HT := Lib.hid hT
                  have HLT := Lib.hid hlt
                  clear hbad hinv hT h1 h2 hx hm hl1 hl2 hfr hlg hlt hj hjT ha hl
                  go_wp2_with (first
                    | (refine wpList_append_own_any (by rfl) (.tmp 71) (.tmp 72) 22 (by rfl) wb.heap.size 3 i0 (.int .i64 0) 1 8 Try.underlying22 hi hz0 hz1 hz2 rfl (by decide) (.slice fa Lf cf') fr.length (fr.map I) (by rfl) (HT.out.o1.alloc _) (some ⟨wr.heap.size, 0, none⟩) 1 1 [.int .i64 (0)] (by rfl) rfl (fun j u hu => ⟨_, rfl, cell_one_new wr _ _ j u hu⟩) (by simp [Value.oneCell']) HB1.out.1 HB1.out.2 (HL1.out _) ?_; intro v4 w4 hown4 hg4 _ hO4; have hT4 := HT.out.one ((Chg.refl _ wr).alloc _) hg4 hown4 rfl hO4; clear hown4 hg4 hO4; obtain ⟨al4, L4, cl4, rfl, hL4⟩ := own_nm hT4.o1; have HT4 := Lib.hid hT4; have HL2 := Lib.hid (le_al (o := (.cells #[.int .i64 (x)] 3)) hT4.ch.size); clear hT4 hL4)
                    | (refine wpList_append_own_any (by rfl) (.tmp 74) (.tmp 76) 22 (by rfl) wb.heap.size 3 i0 (.int .i64 0) 1 8 Try.underlying22 hi hz0 hz1 hz2 rfl (by decide) (.slice ga Lg cg) lg.length (lg.map I) (by rfl) (HT4.out.o2.alloc _) (some ⟨w4.heap.size, 0, none⟩) 1 1 [.int .i64 (x)] (by rfl) rfl (fun j u hu => ⟨_, rfl, cell_one_new w4 _ _ j u hu⟩) (by simp [Value.oneCell']) HB2.out.1 HB2.out.2 HL2.out ?_; intro v5 w5 hown5 hg5 _ hO5; have hT5 := HT4.out.two ((Chg.refl _ w4).alloc _) hg5 hown5 rfl hO5; obtain ⟨al5, L5, cl5, rfl, hL5⟩ := own_nm hT5.o2))
                  go_roundw
                  case rel => exact ⟨j + 1, HLT.out, by go_num, HIN.out, by rw [H1.out, H2.out]; exact hT5⟩
                  case measure => exact fit_meas j L.e.length HLT.out
          · obtain rfl : j = L.e.length := by omega
            rw [List.take_length] at hinv
            rw [List.take_of_length_le (by rw [HFL.out.1]; exact Nat.le_refl _), List.take_of_length_le (by rw [HFL.out.2]; exact Nat.le_refl _)] at hT
            have hwin := r13window_any _ _ _ T FR LG wr (HSB.out.fr hT.ch) hT.o1.ls hT.o2.ls (by rw [HFL.out.1, HFL.out.2]) (by
              rw [← HFR.out]
              refine zw_mem (P := fun y => -10000 ≤ y ∧ y ≤ 10000) fun m hm x hx => ?_
              show -10000 ≤ tkA m x ∧ tkA m x ≤ 10000
              have := (shB_iff.1 HSS.out).2.1 m hm
              have h2 := hinv x hx; unfold tkA takeF; split <;> (simp only; omega)) (by rw [HFL.out.2]; exact hle)
            have HRES := Lib.hid (show tkW L s = winW T FR LG by rw [HOK.out hinv, HFR.out, HLG.out])
            obtain ⟨Y, hY⟩ : ∃ Y, winW T FR LG = Y := ⟨_, rfl⟩
            rw [hY] at hwin HRES
            obtain ⟨fa, Lf, cf', rfl, hLf⟩ := own_nm hT.o1
            obtain ⟨ga, Lg, cg, rfl, hLg⟩ := own_nm hT.o2
            have HCH := Lib.hid hT.ch
            have hrw := Nat.lt_of_lt_of_le HRB.out.lt hT.ch.size
            have HRW := Lib.hid hrw
            clear hT hinv hY hLf hLg hlt hj hrw
            go_wp2_with fail
            refine hwin.mono ?_
            clear hwin
            rintro e9 w5 ⟨vs, vo, vp, rfl, ⟨o1, o2, o3⟩, hC5⟩
            obtain ⟨sa1, Ls1, cs1, rfl, hL1⟩ := own_nm o1
            obtain ⟨oa1, Lo1, co1, rfl, hL2⟩ := own_nm o2
            obtain ⟨pa1, Lp1, cp1, rfl, hL3⟩ := own_nm o3
            obtain ⟨z0, z1, z2, k0, k1, k2⟩ := (HRB.out.fr HCH.out).fr hC5
            obtain ⟨⟨g0, g1⟩, g2⟩ := set3_cells (.slice sa1 Ls1 cs1) (.slice oa1 Lo1 co1) (.slice pa1 Lp1 cp1) z0 z1 z2
            clear hL1 hL2 hL3
            go_wp2
            simp [bodyPost, results, Try.results20, go_sem, g0, g1, g2]
            rw [HRES.out]
            exact gx_pass o1 o2 o3 (Nat.le_succ _) HRW.out ((HCB.out.tr HCH.out).tr hC5)
      · have b1 : ((L.e.length : Int) != 1) = true := by simp only [bne_iff_ne, ne_eq]; omega
        have HLN := Lib.hid (tk_len HE0.out (by rw [HTS.out, HTL.out]; exact hlen))
        clear hlen
        obtain ⟨z0, z1, z2, f0, f1, f2⟩ := HRB.out
        obtain ⟨⟨g0, g1⟩, g2⟩ := set3_cells (.slice none 0 0) (.slice none 0 0) (.slice none 0 0) z0 z1 z2
        skip
        go_wp2
        simp [bodyPost, results, Try.results20, go_sem, g0, g1, g2]
        rw [HLN.out]
        exact gx_no (Nat.le_succ _) HCB.out
    · have hs1 : 0 < s.length := List.length_pos_iff.2 hs0
      have HTS := Lib.hid (show spS s = s from if_neg hs0)
      have HSS := Lib.hid (show shB s = true by rw [← HTS.out]; exact HSS0.out)
      obtain ⟨T, hT⟩ : ∃ T, s = T := ⟨_, rfl⟩
      have HSB := Lib.hid (HS.out.fr hC1)
      have HXB := Lib.hid ho1.ls
      have HCB := Lib.hid (hC0.tr hC1)
      have HRB := Lib.hid hR1
      obtain ⟨d, hd⟩ : ∃ d, s.length = d := ⟨_, rfl⟩
      rw [hd] at HSB hs1 ⊢
      have HTL := Lib.hid (show T.length = d by rw [← hT]; exact hd)
      replace HTS := Lib.hid (show spS s = T by rw [← hT]; exact HTS.out)
      replace HSS := Lib.hid (show shB T = true by rw [← hT]; exact HSS.out)
      rw [hT] at HSB
      have e0 : ((d : Int) == 0) = false := by rw [beq_eq_false_iff_ne]; omega
      clear ho1 hC0 hC1 hR0 hR1 HS hs0 hT hd
      go_upto_region 6 with (fail)
      clear e0
      generalize w1 = wb at *
      by_cases hlen : L.e.length = d
      · have HTE := Lib.hid (show T.length = L.e.length by rw [HTL.out]; exact hlen.symm)
        obtain rfl : L.e.length = d := hlen
        skip
        have hTs : spS s = T := HTS.out
        have HOK := Lib.hid (show (∀ x ∈ L.e, -4096 ≤ x ∧ x ≤ 4096) → tkW L s = winW T (List.zipWith tkA T L.e) (List.zipWith tkL T L.e) from fun h => by rw [← HTS.out]; exact tk_ok HE0.out (by rw [HTS.out]; exact HTE.out.symm) h)
        have HBA := Lib.hid (show ∀ j (hj : j < L.e.length), (4096 < L.e[j] ∨ L.e[j] < -4096) → tkW L s = noW 9 from fun j hj hx => tk_bad HE0.out (by rw [HTS.out]; exact HTE.out.symm) hj hx)
        obtain ⟨FR, hFR⟩ : ∃ FR, List.zipWith tkA T L.e = FR := ⟨_, rfl⟩
        obtain ⟨LG, hLG⟩ : ∃ LG, List.zipWith tkL T L.e = LG := ⟨_, rfl⟩
        have HN1 := Lib.hid (show ∀ j (hj : j < L.e.length) (hjT : j < T.length), FR.take (j + 1) = FR.take j ++ [tkA T[j] L.e[j]] from fun j hj hjT => by rw [← hFR]; exact zw_take hjT hj)
        have HN2 := Lib.hid (show ∀ j (hj : j < L.e.length) (hjT : j < T.length), LG.take (j + 1) = LG.take j ++ [tkL T[j] L.e[j]] from fun j hj hjT => by rw [← hLG]; exact zw_take hjT hj)
        have HFR := Lib.hid hFR
        have HLG := Lib.hid hLG
        have HFL := Lib.hid (show FR.length = L.e.length ∧ LG.length = L.e.length by rw [← hFR, ← hLG]; simp [HTE.out])
        have hz := Two.zero (w0 := wb)
        have HZ := Lib.hid hz
        clear hFR hLG hTs hz
        go_wp2
        go_loopw [8, 9, 10] (fun vf vl i wr => ∃ j : Nat, j ≤ L.e.length ∧ i = .int .i64 j ∧ (∀ x ∈ L.e.take j, -4096 ≤ x ∧ x ≤ 4096) ∧ Two wb wr wb.heap.size vf vl (FR.take j) (LG.take j)) (fun _ _ i _ => L.e.length - (intOf i).toNat)
        case atStart => exact ⟨0, Nat.zero_le _, rfl, (by simp), HZ.out⟩
        case round =>
          obtain ⟨j, hj, rfl, hinv, hT⟩ := hrel
          by_cases hlt : j < L.e.length
          · have hlt' : (j : Int) < (L.e.length : Int) := by omega
            have hj0 : (0 : Int) ≤ (j : Int) := by omega
            have hjT : j < T.length := by rw [HTE.out]; exact hlt
            have hjd : (j : Int) < (L.e.length : Int) := by have := HTL.out; have := HTE.out; omega
            have hkw : IntKind.i64.wrap ((j : Int) + 1) = (j : Int) + 1 := IntWalk.i64_in _ (by omega)
            obtain ⟨b, o, c', e1, hcell⟩ := (HXB.out.fr hT.ch).at hlt
            injection e1 with e1 e2 e3
            clear e2 e3
            subst e1
            obtain ⟨b', o', c'', e1, hcT⟩ := (HSB.out.fr hT.ch).at hjT
            injection e1 with e1 e2 e3
            clear e2 e3
            subst e1
            have h1 := HN1.out j hlt hjT
            have h2 := HN2.out j hlt hjT
            have hbad := HBA.out j hlt
            have hmb := (shB_iff.1 HSS.out).2.1 _ (List.getElem_mem hjT)
            have hl1 : (FR.take j).length ≤ 1000000 := by rw [List.length_take]; omega
            have hl2 : (LG.take j).length ≤ 1000000 := by rw [List.length_take]; omega
            obtain ⟨x, hx⟩ : ∃ x, L.e[j] = x := ⟨_, rfl⟩
            obtain ⟨m, hm⟩ : ∃ m, T[j] = m := ⟨_, rfl⟩
            rw [hx] at hcell h1 h2 hbad
            rw [hm] at hcT h1 h2 hmb
            obtain ⟨fr, hfr⟩ : ∃ fr, FR.take j = fr := ⟨_, rfl⟩
            obtain ⟨lg, hlg⟩ : ∃ lg, LG.take j = lg := ⟨_, rfl⟩
            rw [hfr] at h1 hl1 hT
            rw [hlg] at h2 hl2 hT
            obtain ⟨fa, Lf, cf', rfl, hLf⟩ := own_nm hT.o1
            obtain ⟨ga, Lg, cg, rfl, hLg⟩ := own_nm hT.o2
            clear hLf hLg
            by_cases hb1 : 4096 < x
            · have HBD := Lib.hid (hbad (.inl hb1))
              have HCH := Lib.hid hT.ch
              clear hbad hinv hT h1 h2 hx hm hmb hl1 hl2 hfr hlg hlt hj hjT
              obtain ⟨z0, z1, z2, f0, f1, f2⟩ := HRB.out.fr HCH.out
              obtain ⟨⟨g0, g1⟩, g2⟩ := set3_cells (.slice none 0 0) (.slice none 0 0) (.slice none 0 0) z0 z1 z2
              clear hcT
              go_wp2
              simp [bodyPost, results, Try.results20, go_sem, g0, g1, g2]
              rw [HBD.out]
              exact gx_no (Nat.le_succ _) (HCB.out.tr HCH.out)
            · by_cases hb2 : x < -4096
              · have HBD := Lib.hid (hbad (.inr hb2))
                have HCH := Lib.hid hT.ch
                clear hbad hinv hT h1 h2 hx hm hmb hl1 hl2 hfr hlg hlt hj hjT
                obtain ⟨z0, z1, z2, f0, f1, f2⟩ := HRB.out.fr HCH.out
                obtain ⟨⟨g0, g1⟩, g2⟩ := set3_cells (.slice none 0 0) (.slice none 0 0) (.slice none 0 0) z0 z1 z2
                clear hcT
                go_wp2
                simp [bodyPost, results, Try.results20, go_sem, g0, g1, g2]
                rw [HBD.out]
                exact gx_no (Nat.le_succ _) (HCB.out.tr HCH.out)
              · have HIN := Lib.hid (show ∀ y ∈ L.e.take (j + 1), -4096 ≤ y ∧ y ≤ 4096 from fun y hy => by
                  rw [List.take_succ_eq_append_getElem hlt] at hy
                  rcases List.mem_append.1 hy with hy | hy
                  · exact hinv y hy
                  · rw [List.mem_singleton.1 hy, hx]; omega)
                by_cases hb3 : x < 0
                · have ha : tkA m x = m + x := by unfold tkA takeF; rw [if_pos ⟨hb3, by omega⟩]
                  have hl : tkL m x = -x := by unfold tkL takeF; rw [if_pos ⟨hb3, by omega⟩]
                  rw [ha] at h1
                  rw [hl] at h2
                  have H1 := Lib.hid h1
                  have H2 := Lib.hid h2
                  have HB1 := Lib.hid (app_fit hl1)
                  have HB2 := Lib.hid (app_fit hl2)
                  have HL1 := Lib.hid (fun (o : Obj) => le_al hT.ch.size o)
                  have HT := Lib.hid hT
                  have HLT := Lib.hid hlt
                  clear hbad hinv hT h1 h2 hx hm hl1 hl2 hfr hlg hlt hj hjT ha hl
                  go_wp2_with (first
                    | (refine wpList_append_own_any (by rfl) (.tmp 57) (.tmp 64) 22 (by rfl) wb.heap.size 3 i0 (.int .i64 0) 1 8 Try.underlying22 hi hz0 hz1 hz2 rfl (by decide) (.slice fa Lf cf') fr.length (fr.map I) (by rfl) (HT.out.o1.alloc _) (some ⟨wr.heap.size, 0, none⟩) 1 1 [.int .i64 (m + x)] (by rfl) rfl (fun j u hu => ⟨_, rfl, cell_one_new wr _ _ j u hu⟩) (by simp [Value.oneCell']) HB1.out.1 HB1.out.2 (HL1.out _) ?_; intro v4 w4 hown4 hg4 _ hO4; have hT4 := HT.out.one ((Chg.refl _ wr).alloc _) hg4 hown4 rfl hO4; clear hown4 hg4 hO4; obtain ⟨al4, L4, cl4, rfl, hL4⟩ := own_nm hT4.o1; have HT4 := Lib.hid hT4; have HL2 := Lib.hid (le_al (o := (.cells #[.int .i64 (-x)] 3)) hT4.ch.size); clear hT4 hL4)
                    | (refine wpList_append_own_any (by rfl) (.tmp 66) (.tmp 69) 22 (by rfl) wb.heap.size 3 i0 (.int .i64 0) 1 8 Try.underlying22 hi hz0 hz1 hz2 rfl (by decide) (.slice ga Lg cg) lg.length (lg.map I) (by rfl) (HT4.out.o2.alloc _) (some ⟨w4.heap.size, 0, none⟩) 1 1 [.int .i64 (-x)] (by rfl) rfl (fun j u hu => ⟨_, rfl, cell_one_new w4 _ _ j u hu⟩) (by simp [Value.oneCell']) HB2.out.1 HB2.out.2 HL2.out ?_; intro v5 w5 hown5 hg5 _ hO5; have hT5 := HT4.out.two ((Chg.refl _ w4).alloc _) hg5 hown5 rfl hO5; obtain ⟨al5, L5, cl5, rfl, hL5⟩ := own_nm hT5.o2))
                  go_roundw
                  case rel => exact ⟨j + 1, HLT.out, by go_num, HIN.out, by rw [H1.out, H2.out]; exact hT5⟩
                  case measure => exact fit_meas j L.e.length HLT.out
                · have ha : tkA m x = 0 := by unfold tkA takeF; rw [if_neg (by omega)]
                  have hl : tkL m x = x := by unfold tkL takeF; rw [if_neg (by omega)]
                  rw [ha] at h1
                  rw [hl] at h2
                  have H1 := Lib.hid h1
                  have H2 := Lib.hid h2
                  have HB1 := Lib.hid (app_fit hl1)
                  have HB2 := Lib.hid (app_fit hl2)
                  have HL1 := Lib.hid (fun (o : Obj) => le_al hT.ch.size o)
                  have HT := Lib.hid hT
                  have HLT := Lib.hid hlt
                  clear hbad hinv hT h1 h2 hx hm hl1 hl2 hfr hlg hlt hj hjT ha hl
                  go_wp2_with (first
                    | (refine wpList_append_own_any (by rfl) (.tmp 71) (.tmp 72) 22 (by rfl) wb.heap.size 3 i0 (.int .i64 0) 1 8 Try.underlying22 hi hz0 hz1 hz2 rfl (by decide) (.slice fa Lf cf') fr.length (fr.map I) (by rfl) (HT.out.o1.alloc _) (some ⟨wr.heap.size, 0, none⟩) 1 1 [.int .i64 (0)] (by rfl) rfl (fun j u hu => ⟨_, rfl, cell_one_new wr _ _ j u hu⟩) (by simp [Value.oneCell']) HB1.out.1 HB1.out.2 (HL1.out _) ?_; intro v4 w4 hown4 hg4 _ hO4; have hT4 := HT.out.one ((Chg.refl _ wr).alloc _) hg4 hown4 rfl hO4; clear hown4 hg4 hO4; obtain ⟨al4, L4, cl4, rfl, hL4⟩ := own_nm hT4.o1; have HT4 := Lib.hid hT4; have HL2 := Lib.hid (le_al (o := (.cells #[.int .i64 (x)] 3)) hT4.ch.size); clear hT4 hL4)
                    | (refine wpList_append_own_any (by rfl) (.tmp 74) (.tmp 76) 22 (by rfl) wb.heap.size 3 i0 (.int .i64 0) 1 8 Try.underlying22 hi hz0 hz1 hz2 rfl (by decide) (.slice ga Lg cg) lg.length (lg.map I) (by rfl) (HT4.out.o2.alloc _) (some ⟨w4.heap.size, 0, none⟩) 1 1 [.int .i64 (x)] (by rfl) rfl (fun j u hu => ⟨_, rfl, cell_one_new w4 _ _ j u hu⟩) (by simp [Value.oneCell']) HB2.out.1 HB2.out.2 HL2.out ?_; intro v5 w5 hown5 hg5 _ hO5; have hT5 := HT4.out.two ((Chg.refl _ w4).alloc _) hg5 hown5 rfl hO5; obtain ⟨al5, L5, cl5, rfl, hL5⟩ := own_nm hT5.o2))
                  go_roundw
                  case rel => exact ⟨j + 1, HLT.out, by go_num, HIN.out, by rw [H1.out, H2.out]; exact hT5⟩
                  case measure => exact fit_meas j L.e.length HLT.out
          · obtain rfl : j = L.e.length := by omega
            rw [List.take_length] at hinv
            rw [List.take_of_length_le (by rw [HFL.out.1]; exact Nat.le_refl _), List.take_of_length_le (by rw [HFL.out.2]; exact Nat.le_refl _)] at hT
            have hwin := r13window_any _ _ _ T FR LG wr (HSB.out.fr hT.ch) hT.o1.ls hT.o2.ls (by rw [HFL.out.1, HFL.out.2]) (by
              rw [← HFR.out]
              refine zw_mem (P := fun y => -10000 ≤ y ∧ y ≤ 10000) fun m hm x hx => ?_
              show -10000 ≤ tkA m x ∧ tkA m x ≤ 10000
              have := (shB_iff.1 HSS.out).2.1 m hm
              have h2 := hinv x hx; unfold tkA takeF; split <;> (simp only; omega)) (by rw [HFL.out.2]; exact hle)
            have HRES := Lib.hid (show tkW L s = winW T FR LG by rw [HOK.out hinv, HFR.out, HLG.out])
            obtain ⟨Y, hY⟩ : ∃ Y, winW T FR LG = Y := ⟨_, rfl⟩
            rw [hY] at hwin HRES
            obtain ⟨fa, Lf, cf', rfl, hLf⟩ := own_nm hT.o1
            obtain ⟨ga, Lg, cg, rfl, hLg⟩ := own_nm hT.o2
            have HCH := Lib.hid hT.ch
            have hrw := Nat.lt_of_lt_of_le HRB.out.lt hT.ch.size
            have HRW := Lib.hid hrw
            clear hT hinv hY hLf hLg hlt hj hrw
            go_wp2_with fail
            refine hwin.mono ?_
            clear hwin
            rintro e9 w5 ⟨vs, vo, vp, rfl, ⟨o1, o2, o3⟩, hC5⟩
            obtain ⟨sa1, Ls1, cs1, rfl, hL1⟩ := own_nm o1
            obtain ⟨oa1, Lo1, co1, rfl, hL2⟩ := own_nm o2
            obtain ⟨pa1, Lp1, cp1, rfl, hL3⟩ := own_nm o3
            obtain ⟨z0, z1, z2, k0, k1, k2⟩ := (HRB.out.fr HCH.out).fr hC5
            obtain ⟨⟨g0, g1⟩, g2⟩ := set3_cells (.slice sa1 Ls1 cs1) (.slice oa1 Lo1 co1) (.slice pa1 Lp1 cp1) z0 z1 z2
            clear hL1 hL2 hL3
            go_wp2
            simp [bodyPost, results, Try.results20, go_sem, g0, g1, g2]
            rw [HRES.out]
            exact gx_pass o1 o2 o3 (Nat.le_succ _) HRW.out ((HCB.out.tr HCH.out).tr hC5)
      · have b1 : ((L.e.length : Int) != (d : Int)) = true := by simp only [bne_iff_ne, ne_eq]; omega
        have HLN := Lib.hid (tk_len HE0.out (by rw [HTS.out, HTL.out]; exact hlen))
        clear hlen
        obtain ⟨z0, z1, z2, f0, f1, f2⟩ := HRB.out
        obtain ⟨⟨g0, g1⟩, g2⟩ := set3_cells (.slice none 0 0) (.slice none 0 0) (.slice none 0 0) z0 z1 z2
        skip
        go_wp2
        simp [bodyPost, results, Try.results20, go_sem, g0, g1, g2]
        rw [HLN.out]
        exact gx_no (Nat.le_succ _) HCB.out
  · have HR := Lib.hid (bth_tk hE)
    obtain ⟨E, hEe⟩ : ∃ E, bthE L s = E := ⟨_, rfl⟩
    rw [hEe] at hbt hE
    have hb : (E != 0) = true := bne_iff_ne.2 hE
    have HE := Lib.hid hEe
    generalize bthL L s = xs at *
    clear hL' hS hs he hEe
    go_enter Try.func20, Try.ntmps20
    go_wp2_with fail
    refine hbt.mono ?_
    clear hbt x0 x1 x2
    rintro e9 w1 ⟨v1, rfl, ho1, hC1⟩
    obtain ⟨a1, c1, rfl⟩ := own_name ho1
    clear ho1
    obtain ⟨z0, z1, z2, f0, f1, f2⟩ := hR0.fr hC1
    obtain ⟨⟨g0, g1⟩, g2⟩ := set3_cells (.slice none 0 0) (.slice none 0 0) (.slice none 0 0) z0 z1 z2
    skip
    go_wp2
    simp [bodyPost, results, Try.results20, go_sem, g0, g1, g2]
    rw [HR.out, HE.out]
    exact gx_no (Nat.le_succ _) (hC0.tr hC1)
set_option maxRecDepth 100000 in
set_option maxHeartbeats 4000000 in
theorem r13drop_any (u v : Value) (L : Ar) (s : List Int) (w : World) (hL : Ara w u L) (hS : Ls w v s) (hle : L.e.length ≤ 1000000) : Calls Try.prog 21 #[u, v] w (GaveGO w (drW L s)) := by
  obtain ⟨i0, hi, hz0, hz1, hz2⟩ := info_parts info_int
  have hL' := hL
  obtain ⟨vs, ve, rfl, hs, he⟩ := hL
  obtain ⟨sa, cs, rfl, _⟩ := hs.form
  obtain ⟨ae, ce, rfl, _⟩ := he.form
  obtain ⟨ao, c, rfl, _⟩ := hS.form
  have hC0 := ((Chg.refl (fun _ => False) w).alloc (.cells #[.int .i64 L.k, .slice sa L.s.length cs, .slice ae L.e.length ce] 25)).alloc (.cells #[.slice none 0 0, .slice none 0 0, .slice none 0 0] 39)
  have hR0 := Bx.new (w.alloc (.cells #[.int .i64 L.k, .slice sa L.s.length cs, .slice ae L.e.length ce] 25)) (.slice none 0 0) (.slice none 0 0) (.slice none 0 0) 39
  rw [World.size_alloc] at hR0
  have x0 := alloc_cell (new_cell w #[.int .i64 L.k, .slice sa L.s.length cs, .slice ae L.e.length ce] 25 (i := 0) rfl) (.cells #[.slice none 0 0, .slice none 0 0, .slice none 0 0] 39)
  have x1 := alloc_cell (new_cell w #[.int .i64 L.k, .slice sa L.s.length cs, .slice ae L.e.length ce] 25 (i := 1) rfl) (.cells #[.slice none 0 0, .slice none 0 0, .slice none 0 0] 39)
  have x2 := alloc_cell (new_cell w #[.int .i64 L.k, .slice sa L.s.length cs, .slice ae L.e.length ce] 25 (i := 2) rfl) (.cells #[.slice none 0 0, .slice none 0 0, .slice none 0 0] 39)
  have hbt := r13both_any _ _ L s _ (hL'.fr hC0) (hS.fr hC0) hle
  by_cases hE : bthE L s = 0
  · obtain ⟨hsh, hl0, hbl⟩ := bth_ok hE
    rw [hE, hbl] at hbt
    have HE0 := Lib.hid hE
    have HSS0 := Lib.hid (spS_sh hsh)
    have HS := Lib.hid (hS.fr hC0)
    clear hL' hS hs he hl0 hbl hE hsh
    go_enter Try.func21, Try.ntmps21
    go_wp2_with fail
    refine hbt.mono ?_
    clear hbt x0 x1 x2
    rintro e9 w1 ⟨v1, rfl, ho1, hC1⟩
    obtain ⟨a1, c1, rfl⟩ := own_name ho1
    have hR1 := hR0.fr hC1
    by_cases hs0 : s = []
    · have HTS := Lib.hid (show spS s = [1] by rw [hs0]; rfl)
      have e0 : ((s.length : Int) == 0) = true := by rw [hs0]; rfl
      have HS0 := Lib.hid hs0
      have HSS := Lib.hid (show shB [1] = true from rfl)
      have HTL := Lib.hid (show ([1] : List Int).length = 1 from rfl)
      have hCa := (Chg.refl (fun _ => False) w1).alloc (.cells #[.int .i64 1] 3)
      have HSB := Lib.hid ((own_lit w1 3 [1] 1 rfl #[.int .i64 1] rfl (by decide)).ls)
      have HXB := Lib.hid (ho1.ls.fr hCa)
      have HCB := Lib.hid ((hC0.tr hC1).tr hCa)
      have HRB := Lib.hid (hR1.fr hCa)
      clear ho1 hC0 hC1 hR0 hR1 HS hs0
      go_upto_region 6 with (fail)
      clear e0
      generalize w1.alloc (.cells #[.int .i64 1] 3) = wb at *
      generalize w1.heap.size = p1 at *
      generalize ([1] : List Int) = T at *
      clear hCa
      obtain ⟨sp, hsp⟩ : ∃ sp, (some ⟨p1, 0, none⟩ : Option Addr) = sp := ⟨_, rfl⟩
      rw [hsp] at HSB ⊢
      clear hsp
      by_cases hlen : L.e.length = 1
      · have HTE := Lib.hid (show T.length = L.e.length by rw [HTL.out]; exact hlen.symm)
        have b0 : ((L.e.length : Int) != 1) = false := by rw [bne_eq_false_iff_eq, hlen]; rfl
        clear hlen
        have hTs : spS s = T := HTS.out
        have HOK := Lib.hid (show True → drW L s = winW T (List.zipWith drA T L.e) (List.zipWith drL T L.e) from fun _ => by rw [← HTS.out]; exact dr_ok HE0.out (by rw [HTS.out]; exact HTE.out.symm))
        have HBA := Lib.hid (show ∀ j, j < L.e.length → True from fun _ _ => trivial)
        obtain ⟨FR, hFR⟩ : ∃ FR, List.zipWith drA T L.e = FR := ⟨_, rfl⟩
        obtain ⟨LG, hLG⟩ : ∃ LG, List.zipWith drL T L.e = LG := ⟨_, rfl⟩
        have HN1 := Lib.hid (show ∀ j (hj : j < L.e.length) (hjT : j < T.length), FR.take (j + 1) = FR.take j ++ [drA T[j] L.e[j]] from fun j hj hjT => by rw [← hFR]; exact zw_take hjT hj)
        have HN2 := Lib.hid (show ∀ j (hj : j < L.e.length) (hjT : j < T.length), LG.take (j + 1) = LG.take j ++ [drL T[j] L.e[j]] from fun j hj hjT => by rw [← hLG]; exact zw_take hjT hj)
        have HFR := Lib.hid hFR
        have HLG := Lib.hid hLG
        have HFL := Lib.hid (show FR.length = L.e.length ∧ LG.length = L.e.length by rw [← hFR, ← hLG]; simp [HTE.out])
        have hz := Two.zero (w0 := wb)
        have HZ := Lib.hid hz
        clear hFR hLG hTs hz
        go_wp2
        go_loopw [8, 9, 10] (fun vf vl i wr => ∃ j : Nat, j ≤ L.e.length ∧ i = .int .i64 j ∧ (True) ∧ Two wb wr wb.heap.size vf vl (FR.take j) (LG.take j)) (fun _ _ i _ => L.e.length - (intOf i).toNat)
        case atStart => exact ⟨0, Nat.zero_le _, rfl, trivial, HZ.out⟩
        case round =>
          obtain ⟨j, hj, rfl, hinv, hT⟩ := hrel
          by_cases hlt : j < L.e.length
          · have hlt' : (j : Int) < (L.e.length : Int) := by omega
            have hj0 : (0 : Int) ≤ (j : Int) := by omega
            have hjT : j < T.length := by rw [HTE.out]; exact hlt
            have hjd : (j : Int) < 1 := by have := HTL.out; have := HTE.out; omega
            have hkw : IntKind.i64.wrap ((j : Int) + 1) = (j : Int) + 1 := IntWalk.i64_in _ (by omega)
            obtain ⟨b, o, c', e1, hcell⟩ := (HXB.out.fr hT.ch).at hlt
            injection e1 with e1 e2 e3
            clear e2 e3
            subst e1
            obtain ⟨b', o', c'', e1, hcT⟩ := (HSB.out.fr hT.ch).at hjT
            injection e1 with e1 e2 e3
            clear e2 e3
            subst e1
            have h1 := HN1.out j hlt hjT
            have h2 := HN2.out j hlt hjT
            have hbad := HBA.out j hlt
            have hmb := (shB_iff.1 HSS.out).2.1 _ (List.getElem_mem hjT)
            have hl1 : (FR.take j).length ≤ 1000000 := by rw [List.length_take]; omega
            have hl2 : (LG.take j).length ≤ 1000000 := by rw [List.length_take]; omega
            obtain ⟨x, hx⟩ : ∃ x, L.e[j] = x := ⟨_, rfl⟩
            obtain ⟨m, hm⟩ : ∃ m, T[j] = m := ⟨_, rfl⟩
            rw [hx] at hcell h1 h2 
            rw [hm] at hcT h1 h2 hmb
            obtain ⟨fr, hfr⟩ : ∃ fr, FR.take j = fr := ⟨_, rfl⟩
            obtain ⟨lg, hlg⟩ : ∃ lg, LG.take j = lg := ⟨_, rfl⟩
            rw [hfr] at h1 hl1 hT
            rw [hlg] at h2 hl2 hT
            obtain ⟨fa, Lf, cf', rfl, hLf⟩ := own_nm hT.o1
            obtain ⟨ga, Lg, cg, rfl, hLg⟩ := own_nm hT.o2
            clear hLf hLg
            by_cases hb1 : m ≤ x
            · have ha : drA m x = 0 := if_pos (.inl hb1)
              have hl : drL m x = 0 := if_pos (.inl hb1)
              rw [ha] at h1
              rw [hl] at h2
              have H1 := Lib.hid h1
              have H2 := Lib.hid h2
              have HB1 := Lib.hid (app_fit hl1)
              have HB2 := Lib.hid (app_fit hl2)
              have HL1 := Lib.hid (fun (o : Obj) => le_al hT.ch.size o)
              have HT := Lib.hid hT
              have HLT := Lib.hid hlt
              clear hbad hinv hT h1 h2 hx hm hl1 hl2 hfr hlg hlt hj hjT ha hl
              go_wp2_with (first
                | (refine wpList_append_own_any (by rfl) (.tmp 67) (.tmp 68) 22 (by rfl) wb.heap.size 3 i0 (.int .i64 0) 1 8 Try.underlying22 hi hz0 hz1 hz2 rfl (by decide) (.slice fa Lf cf') fr.length (fr.map I) (by rfl) (HT.out.o1.alloc _) (some ⟨wr.heap.size, 0, none⟩) 1 1 [.int .i64 (0)] (by rfl) rfl (fun j u hu => ⟨_, rfl, cell_one_new wr _ _ j u hu⟩) (by simp [Value.oneCell']) HB1.out.1 HB1.out.2 (HL1.out _) ?_; intro v4 w4 hown4 hg4 _ hO4; have hT4 := HT.out.one ((Chg.refl _ wr).alloc _) hg4 hown4 rfl hO4; clear hown4 hg4 hO4; obtain ⟨al4, L4, cl4, rfl, hL4⟩ := own_nm hT4.o1; have HT4 := Lib.hid hT4; have HL2 := Lib.hid (le_al (o := (.cells #[.int .i64 (0)] 3)) hT4.ch.size); clear hT4 hL4)
                | (refine wpList_append_own_any (by rfl) (.tmp 70) (.tmp 71) 22 (by rfl) wb.heap.size 3 i0 (.int .i64 0) 1 8 Try.underlying22 hi hz0 hz1 hz2 rfl (by decide) (.slice ga Lg cg) lg.length (lg.map I) (by rfl) (HT4.out.o2.alloc _) (some ⟨w4.heap.size, 0, none⟩) 1 1 [.int .i64 (0)] (by rfl) rfl (fun j u hu => ⟨_, rfl, cell_one_new w4 _ _ j u hu⟩) (by simp [Value.oneCell']) HB2.out.1 HB2.out.2 HL2.out ?_; intro v5 w5 hown5 hg5 _ hO5; have hT5 := HT4.out.two ((Chg.refl _ w4).alloc _) hg5 hown5 rfl hO5; obtain ⟨al5, L5, cl5, rfl, hL5⟩ := own_nm hT5.o2))
              go_roundw
              case rel => exact ⟨j + 1, HLT.out, by go_num, trivial, by rw [H1.out, H2.out]; exact hT5⟩
              case measure => exact fit_meas j L.e.length HLT.out
            · by_cases hb2 : x ≤ -m
              · have ha : drA m x = 0 := if_pos (.inr hb2)
                have hl : drL m x = 0 := if_pos (.inr hb2)
                rw [ha] at h1
                rw [hl] at h2
                have H1 := Lib.hid h1
                have H2 := Lib.hid h2
                have HB1 := Lib.hid (app_fit hl1)
                have HB2 := Lib.hid (app_fit hl2)
                have HL1 := Lib.hid (fun (o : Obj) => le_al hT.ch.size o)
                have HT := Lib.hid hT
                have HLT := Lib.hid hlt
                clear hbad hinv hT h1 h2 hx hm hl1 hl2 hfr hlg hlt hj hjT ha hl
                go_wp2_with (first
                  | (refine wpList_append_own_any (by rfl) (.tmp 67) (.tmp 68) 22 (by rfl) wb.heap.size 3 i0 (.int .i64 0) 1 8 Try.underlying22 hi hz0 hz1 hz2 rfl (by decide) (.slice fa Lf cf') fr.length (fr.map I) (by rfl) (HT.out.o1.alloc _) (some ⟨wr.heap.size, 0, none⟩) 1 1 [.int .i64 (0)] (by rfl) rfl (fun j u hu => ⟨_, rfl, cell_one_new wr _ _ j u hu⟩) (by simp [Value.oneCell']) HB1.out.1 HB1.out.2 (HL1.out _) ?_; intro v4 w4 hown4 hg4 _ hO4; have hT4 := HT.out.one ((Chg.refl _ wr).alloc _) hg4 hown4 rfl hO4; clear hown4 hg4 hO4; obtain ⟨al4, L4, cl4, rfl, hL4⟩ := own_nm hT4.o1; have HT4 := Lib.hid hT4; have HL2 := Lib.hid (le_al (o := (.cells #[.int .i64 (0)] 3)) hT4.ch.size); clear hT4 hL4)
                  | (refine wpList_append_own_any (by rfl) (.tmp 70) (.tmp 71) 22 (by rfl) wb.heap.size 3 i0 (.int .i64 0) 1 8 Try.underlying22 hi hz0 hz1 hz2 rfl (by decide) (.slice ga Lg cg) lg.length (lg.map I) (by rfl) (HT4.out.o2.alloc _) (some ⟨w4.heap.size, 0, none⟩) 1 1 [.int .i64 (0)] (by rfl) rfl (fun j u hu => ⟨_, rfl, cell_one_new w4 _ _ j u hu⟩) (by simp [Value.oneCell']) HB2.out.1 HB2.out.2 HL2.out ?_; intro v5 w5 hown5 hg5 _ hO5; have hT5 := HT4.out.two ((Chg.refl _ w4).alloc _) hg5 hown5 rfl hO5; obtain ⟨al5, L5, cl5, rfl, hL5⟩ := own_nm hT5.o2))
                go_roundw
                case rel => exact ⟨j + 1, HLT.out, by go_num, trivial, by rw [H1.out, H2.out]; exact hT5⟩
                case measure => exact fit_meas j L.e.length HLT.out
              · have hb12 : ¬ (m ≤ x ∨ x ≤ -m) := by omega
                by_cases hb3 : x < 0
                · have ha : drA m x = 0 := by unfold drA; rw [if_neg hb12, if_pos hb3]
                  have hl : drL m x = m + x := by unfold drL; rw [if_neg hb12, if_pos hb3]
                  rw [ha] at h1
                  rw [hl] at h2
                  clear hb12
                  have H1 := Lib.hid h1
                  have H2 := Lib.hid h2
                  have HB1 := Lib.hid (app_fit hl1)
                  have HB2 := Lib.hid (app_fit hl2)
                  have HL1 := Lib.hid (fun (o : Obj) => le_al hT.ch.size o)
                  have HT := Lib.hid hT
                  have HLT := Lib.hid hlt
                  clear hbad hinv hT h1 h2 hx hm hl1 hl2 hfr hlg hlt hj hjT ha hl
                  go_wp2_with (first
                    | (refine wpList_append_own_any (by rfl) (.tmp 76) (.tmp 77) 22 (by rfl) wb.heap.size 3 i0 (.int .i64 0) 1 8 Try.underlying22 hi hz0 hz1 hz2 rfl (by decide) (.slice fa Lf cf') fr.length (fr.map I) (by rfl) (HT.out.o1.alloc _) (some ⟨wr.heap.size, 0, none⟩) 1 1 [.int .i64 (0)] (by rfl) rfl (fun j u hu => ⟨_, rfl, cell_one_new wr _ _ j u hu⟩) (by simp [Value.oneCell']) HB1.out.1 HB1.out.2 (HL1.out _) ?_; intro v4 w4 hown4 hg4 _ hO4; have hT4 := HT.out.one ((Chg.refl _ wr).alloc _) hg4 hown4 rfl hO4; clear hown4 hg4 hO4; obtain ⟨al4, L4, cl4, rfl, hL4⟩ := own_nm hT4.o1; have HT4 := Lib.hid hT4; have HL2 := Lib.hid (le_al (o := (.cells #[.int .i64 (m + x)] 3)) hT4.ch.size); clear hT4 hL4)
                    | (refine wpList_append_own_any (by rfl) (.tmp 79) (.tmp 83) 22 (by rfl) wb.heap.size 3 i0 (.int .i64 0) 1 8 Try.underlying22 hi hz0 hz1 hz2 rfl (by decide) (.slice ga Lg cg) lg.length (lg.map I) (by rfl) (HT4.out.o2.alloc _) (some ⟨w4.heap.size, 0, none⟩) 1 1 [.int .i64 (m + x)] (by rfl) rfl (fun j u hu => ⟨_, rfl, cell_one_new w4 _ _ j u hu⟩) (by simp [Value.oneCell']) HB2.out.1 HB2.out.2 HL2.out ?_; intro v5 w5 hown5 hg5 _ hO5; have hT5 := HT4.out.two ((Chg.refl _ w4).alloc _) hg5 hown5 rfl hO5; obtain ⟨al5, L5, cl5, rfl, hL5⟩ := own_nm hT5.o2))
                  go_roundw
                  case rel => exact ⟨j + 1, HLT.out, by go_num, trivial, by rw [H1.out, H2.out]; exact hT5⟩
                  case measure => exact fit_meas j L.e.length HLT.out
                · have ha : drA m x = x := by unfold drA; rw [if_neg hb12, if_neg hb3]
                  have hl : drL m x = m - x := by unfold drL; rw [if_neg hb12, if_neg hb3]
                  rw [ha] at h1
                  rw [hl] at h2
                  clear hb12
                  have H1 := Lib.hid h1
                  have H2 := Lib.hid h2
                  have HB1 := Lib.hid (app_fit hl1)
                  have HB2 := Lib.hid (app_fit hl2)
                  have HL1 := Lib.hid (fun (o : Obj) => le_al hT.ch.size o)
                  have HT := Lib.hid hT
                  have HLT := Lib.hid hlt
                  clear hbad hinv hT h1 h2 hx hm hl1 hl2 hfr hlg hlt hj hjT ha hl
                  go_wp2_with (first
                    | (refine wpList_append_own_any (by rfl) (.tmp 47) (.tmp 49) 22 (by rfl) wb.heap.size 3 i0 (.int .i64 0) 1 8 Try.underlying22 hi hz0 hz1 hz2 rfl (by decide) (.slice fa Lf cf') fr.length (fr.map I) (by rfl) (HT.out.o1.alloc _) (some ⟨wr.heap.size, 0, none⟩) 1 1 [.int .i64 (x)] (by rfl) rfl (fun j u hu => ⟨_, rfl, cell_one_new wr _ _ j u hu⟩) (by simp [Value.oneCell']) HB1.out.1 HB1.out.2 (HL1.out _) ?_; intro v4 w4 hown4 hg4 _ hO4; have hT4 := HT.out.one ((Chg.refl _ wr).alloc _) hg4 hown4 rfl hO4; clear hown4 hg4 hO4; obtain ⟨al4, L4, cl4, rfl, hL4⟩ := own_nm hT4.o1; have HT4 := Lib.hid hT4; have HL2 := Lib.hid (le_al (o := (.cells #[.int .i64 (m - x)] 3)) hT4.ch.size); clear hT4 hL4)
                    | (refine wpList_append_own_any (by rfl) (.tmp 51) (.tmp 55) 22 (by rfl) wb.heap.size 3 i0 (.int .i64 0) 1 8 Try.underlying22 hi hz0 hz1 hz2 rfl (by decide) (.slice ga Lg cg) lg.length (lg.map I) (by rfl) (HT4.out.o2.alloc _) (some ⟨w4.heap.size, 0, none⟩) 1 1 [.int .i64 (m - x)] (by rfl) rfl (fun j u hu => ⟨_, rfl, cell_one_new w4 _ _ j u hu⟩) (by simp [Value.oneCell']) HB2.out.1 HB2.out.2 HL2.out ?_; intro v5 w5 hown5 hg5 _ hO5; have hT5 := HT4.out.two ((Chg.refl _ w4).alloc _) hg5 hown5 rfl hO5; obtain ⟨al5, L5, cl5, rfl, hL5⟩ := own_nm hT5.o2))
                  go_roundw
                  case rel => exact ⟨j + 1, HLT.out, by go_num, trivial, by rw [H1.out, H2.out]; exact hT5⟩
                  case measure => exact fit_meas j L.e.length HLT.out
          · obtain rfl : j = L.e.length := by omega
            skip
            rw [List.take_of_length_le (by rw [HFL.out.1]; exact Nat.le_refl _), List.take_of_length_le (by rw [HFL.out.2]; exact Nat.le_refl _)] at hT
            have hwin := r13window_any _ _ _ T FR LG wr (HSB.out.fr hT.ch) hT.o1.ls hT.o2.ls (by rw [HFL.out.1, HFL.out.2]) (by
              rw [← HFR.out]
              refine zw_mem (P := fun y => -10000 ≤ y ∧ y ≤ 10000) fun m hm x hx => ?_
              show -10000 ≤ drA m x ∧ drA m x ≤ 10000
              have := (shB_iff.1 HSS.out).2.1 m hm
              unfold drA; split <;> (try split) <;> omega) (by rw [HFL.out.2]; exact hle)
            have HRES := Lib.hid (show drW L s = winW T FR LG by rw [HOK.out hinv, HFR.out, HLG.out])
            obtain ⟨Y, hY⟩ : ∃ Y, winW T FR LG = Y := ⟨_, rfl⟩
            rw [hY] at hwin HRES
            obtain ⟨fa, Lf, cf', rfl, hLf⟩ := own_nm hT.o1
            obtain ⟨ga, Lg, cg, rfl, hLg⟩ := own_nm hT.o2
            have HCH := Lib.hid hT.ch
            have hrw := Nat.lt_of_lt_of_le HRB.out.lt hT.ch.size
            have HRW := Lib.hid hrw
            clear hT hinv hY hLf hLg hlt hj hrw
            go_wp2_with fail
            refine hwin.mono ?_
            clear hwin
            rintro e9 w5 ⟨vs, vo, vp, rfl, ⟨o1, o2, o3⟩, hC5⟩
            obtain ⟨sa1, Ls1, cs1, rfl, hL1⟩ := own_nm o1
            obtain ⟨oa1, Lo1, co1, rfl, hL2⟩ := own_nm o2
            obtain ⟨pa1, Lp1, cp1, rfl, hL3⟩ := own_nm o3
            obtain ⟨z0, z1, z2, k0, k1, k2⟩ := (HRB.out.fr HCH.out).fr hC5
            obtain ⟨⟨g0, g1⟩, g2⟩ := set3_cells (.slice sa1 Ls1 cs1) (.slice oa1 Lo1 co1) (.slice pa1 Lp1 cp1) z0 z1 z2
            clear hL1 hL2 hL3
            go_wp2
            simp [bodyPost, results, Try.results21, go_sem, g0, g1, g2]
            rw [HRES.out]
            exact gx_pass o1 o2 o3 (Nat.le_succ _) HRW.out ((HCB.out.tr HCH.out).tr hC5)
      · have b1 : ((L.e.length : Int) != 1) = true := by simp only [bne_iff_ne, ne_eq]; omega
        have HLN := Lib.hid (dr_len HE0.out (by rw [HTS.out, HTL.out]; exact hlen))
        clear hlen
        obtain ⟨z0, z1, z2, f0, f1, f2⟩ := HRB.out
        obtain ⟨⟨g0, g1⟩, g2⟩ := set3_cells (.slice none 0 0) (.slice none 0 0) (.slice none 0 0) z0 z1 z2
        skip
        go_wp2
        simp [bodyPost, results, Try.results21, go_sem, g0, g1, g2]
        rw [HLN.out]
        exact gx_no (Nat.le_succ _) HCB.out
    · have hs1 : 0 < s.length := List.length_pos_iff.2 hs0
      have HTS := Lib.hid (show spS s = s from if_neg hs0)
      have HSS := Lib.hid (show shB s = true by rw [← HTS.out]; exact HSS0.out)
      obtain ⟨T, hT⟩ : ∃ T, s = T := ⟨_, rfl⟩
      have HSB := Lib.hid (HS.out.fr hC1)
      have HXB := Lib.hid ho1.ls
      have HCB := Lib.hid (hC0.tr hC1)
      have HRB := Lib.hid hR1
      obtain ⟨d, hd⟩ : ∃ d, s.length = d := ⟨_, rfl⟩
      rw [hd] at HSB hs1 ⊢
      have HTL := Lib.hid (show T.length = d by rw [← hT]; exact hd)
      replace HTS := Lib.hid (show spS s = T by rw [← hT]; exact HTS.out)
      replace HSS := Lib.hid (show shB T = true by rw [← hT]; exact HSS.out)
      rw [hT] at HSB
      have e0 : ((d : Int) == 0) = false := by rw [beq_eq_false_iff_ne]; omega
      clear ho1 hC0 hC1 hR0 hR1 HS hs0 hT hd
      go_upto_region 6 with (fail)
      clear e0
      generalize w1 = wb at *
      by_cases hlen : L.e.length = d
      · have HTE := Lib.hid (show T.length = L.e.length by rw [HTL.out]; exact hlen.symm)
        obtain rfl : L.e.length = d := hlen
        skip
        have hTs : spS s = T := HTS.out
        have HOK := Lib.hid (show True → drW L s = winW T (List.zipWith drA T L.e) (List.zipWith drL T L.e) from fun _ => by rw [← HTS.out]; exact dr_ok HE0.out (by rw [HTS.out]; exact HTE.out.symm))
        have HBA := Lib.hid (show ∀ j, j < L.e.length → True from fun _ _ => trivial)
        obtain ⟨FR, hFR⟩ : ∃ FR, List.zipWith drA T L.e = FR := ⟨_, rfl⟩
        obtain ⟨LG, hLG⟩ : ∃ LG, List.zipWith drL T L.e = LG := ⟨_, rfl⟩
        have HN1 := Lib.hid (show ∀ j (hj : j < L.e.length) (hjT : j < T.length), FR.take (j + 1) = FR.take j ++ [drA T[j] L.e[j]] from fun j hj hjT => by rw [← hFR]; exact zw_take hjT hj)
        have HN2 := Lib.hid (show ∀ j (hj : j < L.e.length) (hjT : j < T.length), LG.take (j + 1) = LG.take j ++ [drL T[j] L.e[j]] from fun j hj hjT => by rw [← hLG]; exact zw_take hjT hj)
        have HFR := Lib.hid hFR
        have HLG := Lib.hid hLG
        have HFL := Lib.hid (show FR.length = L.e.length ∧ LG.length = L.e.length by rw [← hFR, ← hLG]; simp [HTE.out])
        have hz := Two.zero (w0 := wb)
        have HZ := Lib.hid hz
        clear hFR hLG hTs hz
        go_wp2
        go_loopw [8, 9, 10] (fun vf vl i wr => ∃ j : Nat, j ≤ L.e.length ∧ i = .int .i64 j ∧ (True) ∧ Two wb wr wb.heap.size vf vl (FR.take j) (LG.take j)) (fun _ _ i _ => L.e.length - (intOf i).toNat)
        case atStart => exact ⟨0, Nat.zero_le _, rfl, trivial, HZ.out⟩
        case round =>
          obtain ⟨j, hj, rfl, hinv, hT⟩ := hrel
          by_cases hlt : j < L.e.length
          · have hlt' : (j : Int) < (L.e.length : Int) := by omega
            have hj0 : (0 : Int) ≤ (j : Int) := by omega
            have hjT : j < T.length := by rw [HTE.out]; exact hlt
            have hjd : (j : Int) < (L.e.length : Int) := by have := HTL.out; have := HTE.out; omega
            have hkw : IntKind.i64.wrap ((j : Int) + 1) = (j : Int) + 1 := IntWalk.i64_in _ (by omega)
            obtain ⟨b, o, c', e1, hcell⟩ := (HXB.out.fr hT.ch).at hlt
            injection e1 with e1 e2 e3
            clear e2 e3
            subst e1
            obtain ⟨b', o', c'', e1, hcT⟩ := (HSB.out.fr hT.ch).at hjT
            injection e1 with e1 e2 e3
            clear e2 e3
            subst e1
            have h1 := HN1.out j hlt hjT
            have h2 := HN2.out j hlt hjT
            have hbad := HBA.out j hlt
            have hmb := (shB_iff.1 HSS.out).2.1 _ (List.getElem_mem hjT)
            have hl1 : (FR.take j).length ≤ 1000000 := by rw [List.length_take]; omega
            have hl2 : (LG.take j).length ≤ 1000000 := by rw [List.length_take]; omega
            obtain ⟨x, hx⟩ : ∃ x, L.e[j] = x := ⟨_, rfl⟩
            obtain ⟨m, hm⟩ : ∃ m, T[j] = m := ⟨_, rfl⟩
            rw [hx] at hcell h1 h2 
            rw [hm] at hcT h1 h2 hmb
            obtain ⟨fr, hfr⟩ : ∃ fr, FR.take j = fr := ⟨_, rfl⟩
            obtain ⟨lg, hlg⟩ : ∃ lg, LG.take j = lg := ⟨_, rfl⟩
            rw [hfr] at h1 hl1 hT
            rw [hlg] at h2 hl2 hT
            obtain ⟨fa, Lf, cf', rfl, hLf⟩ := own_nm hT.o1
            obtain ⟨ga, Lg, cg, rfl, hLg⟩ := own_nm hT.o2
            clear hLf hLg
            by_cases hb1 : m ≤ x
            · have ha : drA m x = 0 := if_pos (.inl hb1)
              have hl : drL m x = 0 := if_pos (.inl hb1)
              rw [ha] at h1
              rw [hl] at h2
              have H1 := Lib.hid h1
              have H2 := Lib.hid h2
              have HB1 := Lib.hid (app_fit hl1)
              have HB2 := Lib.hid (app_fit hl2)
              have HL1 := Lib.hid (fun (o : Obj) => le_al hT.ch.size o)
              have HT := Lib.hid hT
              have HLT := Lib.hid hlt
              clear hbad hinv hT h1 h2 hx hm hl1 hl2 hfr hlg hlt hj hjT ha hl
              go_wp2_with (first
                | (refine wpList_append_own_any (by rfl) (.tmp 67) (.tmp 68) 22 (by rfl) wb.heap.size 3 i0 (.int .i64 0) 1 8 Try.underlying22 hi hz0 hz1 hz2 rfl (by decide) (.slice fa Lf cf') fr.length (fr.map I) (by rfl) (HT.out.o1.alloc _) (some ⟨wr.heap.size, 0, none⟩) 1 1 [.int .i64 (0)] (by rfl) rfl (fun j u hu => ⟨_, rfl, cell_one_new wr _ _ j u hu⟩) (by simp [Value.oneCell']) HB1.out.1 HB1.out.2 (HL1.out _) ?_; intro v4 w4 hown4 hg4 _ hO4; have hT4 := HT.out.one ((Chg.refl _ wr).alloc _) hg4 hown4 rfl hO4; clear hown4 hg4 hO4; obtain ⟨al4, L4, cl4, rfl, hL4⟩ := own_nm hT4.o1; have HT4 := Lib.hid hT4; have HL2 := Lib.hid (le_al (o := (.cells #[.int .i64 (0)] 3)) hT4.ch.size); clear hT4 hL4)
                | (refine wpList_append_own_any (by rfl) (.tmp 70) (.tmp 71) 22 (by rfl) wb.heap.size 3 i0 (.int .i64 0) 1 8 Try.underlying22 hi hz0 hz1 hz2 rfl (by decide) (.slice ga Lg cg) lg.length (lg.map I) (by rfl) (HT4.out.o2.alloc _) (some ⟨w4.heap.size, 0, none⟩) 1 1 [.int .i64 (0)] (by rfl) rfl (fun j u hu => ⟨_, rfl, cell_one_new w4 _ _ j u hu⟩) (by simp [Value.oneCell']) HB2.out.1 HB2.out.2 HL2.out ?_; intro v5 w5 hown5 hg5 _ hO5; have hT5 := HT4.out.two ((Chg.refl _ w4).alloc _) hg5 hown5 rfl hO5; obtain ⟨al5, L5, cl5, rfl, hL5⟩ := own_nm hT5.o2))
              go_roundw
              case rel => exact ⟨j + 1, HLT.out, by go_num, trivial, by rw [H1.out, H2.out]; exact hT5⟩
              case measure => exact fit_meas j L.e.length HLT.out
            · by_cases hb2 : x ≤ -m
              · have ha : drA m x = 0 := if_pos (.inr hb2)
                have hl : drL m x = 0 := if_pos (.inr hb2)
                rw [ha] at h1
                rw [hl] at h2
                have H1 := Lib.hid h1
                have H2 := Lib.hid h2
                have HB1 := Lib.hid (app_fit hl1)
                have HB2 := Lib.hid (app_fit hl2)
                have HL1 := Lib.hid (fun (o : Obj) => le_al hT.ch.size o)
                have HT := Lib.hid hT
                have HLT := Lib.hid hlt
                clear hbad hinv hT h1 h2 hx hm hl1 hl2 hfr hlg hlt hj hjT ha hl
                go_wp2_with (first
                  | (refine wpList_append_own_any (by rfl) (.tmp 67) (.tmp 68) 22 (by rfl) wb.heap.size 3 i0 (.int .i64 0) 1 8 Try.underlying22 hi hz0 hz1 hz2 rfl (by decide) (.slice fa Lf cf') fr.length (fr.map I) (by rfl) (HT.out.o1.alloc _) (some ⟨wr.heap.size, 0, none⟩) 1 1 [.int .i64 (0)] (by rfl) rfl (fun j u hu => ⟨_, rfl, cell_one_new wr _ _ j u hu⟩) (by simp [Value.oneCell']) HB1.out.1 HB1.out.2 (HL1.out _) ?_; intro v4 w4 hown4 hg4 _ hO4; have hT4 := HT.out.one ((Chg.refl _ wr).alloc _) hg4 hown4 rfl hO4; clear hown4 hg4 hO4; obtain ⟨al4, L4, cl4, rfl, hL4⟩ := own_nm hT4.o1; have HT4 := Lib.hid hT4; have HL2 := Lib.hid (le_al (o := (.cells #[.int .i64 (0)] 3)) hT4.ch.size); clear hT4 hL4)
                  | (refine wpList_append_own_any (by rfl) (.tmp 70) (.tmp 71) 22 (by rfl) wb.heap.size 3 i0 (.int .i64 0) 1 8 Try.underlying22 hi hz0 hz1 hz2 rfl (by decide) (.slice ga Lg cg) lg.length (lg.map I) (by rfl) (HT4.out.o2.alloc _) (some ⟨w4.heap.size, 0, none⟩) 1 1 [.int .i64 (0)] (by rfl) rfl (fun j u hu => ⟨_, rfl, cell_one_new w4 _ _ j u hu⟩) (by simp [Value.oneCell']) HB2.out.1 HB2.out.2 HL2.out ?_; intro v5 w5 hown5 hg5 _ hO5; have hT5 := HT4.out.two ((Chg.refl _ w4).alloc _) hg5 hown5 rfl hO5; obtain ⟨al5, L5, cl5, rfl, hL5⟩ := own_nm hT5.o2))
                go_roundw
                case rel => exact ⟨j + 1, HLT.out, by go_num, trivial, by rw [H1.out, H2.out]; exact hT5⟩
                case measure => exact fit_meas j L.e.length HLT.out
              · have hb12 : ¬ (m ≤ x ∨ x ≤ -m) := by omega
                by_cases hb3 : x < 0
                · have ha : drA m x = 0 := by unfold drA; rw [if_neg hb12, if_pos hb3]
                  have hl : drL m x = m + x := by unfold drL; rw [if_neg hb12, if_pos hb3]
                  rw [ha] at h1
                  rw [hl] at h2
                  clear hb12
                  have H1 := Lib.hid h1
                  have H2 := Lib.hid h2
                  have HB1 := Lib.hid (app_fit hl1)
                  have HB2 := Lib.hid (app_fit hl2)
                  have HL1 := Lib.hid (fun (o : Obj) => le_al hT.ch.size o)
                  have HT := Lib.hid hT
                  have HLT := Lib.hid hlt
                  clear hbad hinv hT h1 h2 hx hm hl1 hl2 hfr hlg hlt hj hjT ha hl
                  go_wp2_with (first
                    | (refine wpList_append_own_any (by rfl) (.tmp 76) (.tmp 77) 22 (by rfl) wb.heap.size 3 i0 (.int .i64 0) 1 8 Try.underlying22 hi hz0 hz1 hz2 rfl (by decide) (.slice fa Lf cf') fr.length (fr.map I) (by rfl) (HT.out.o1.alloc _) (some ⟨wr.heap.size, 0, none⟩) 1 1 [.int .i64 (0)] (by rfl) rfl (fun j u hu => ⟨_, rfl, cell_one_new wr _ _ j u hu⟩) (by simp [Value.oneCell']) HB1.out.1 HB1.out.2 (HL1.out _) ?_; intro v4 w4 hown4 hg4 _ hO4; have hT4 := HT.out.one ((Chg.refl _ wr).alloc _) hg4 hown4 rfl hO4; clear hown4 hg4 hO4; obtain ⟨al4, L4, cl4, rfl, hL4⟩ := own_nm hT4.o1; have HT4 := Lib.hid hT4; have HL2 := Lib.hid (le_al (o := (.cells #[.int .i64 (m + x)] 3)) hT4.ch.size); clear hT4 hL4)
                    | (refine wpList_append_own_any (by rfl) (.tmp 79) (.tmp 83) 22 (by rfl) wb.heap.size 3 i0 (.int .i64 0) 1 8 Try.underlying22 hi hz0 hz1 hz2 rfl (by decide) (.slice ga Lg cg) lg.length (lg.map I) (by rfl) (HT4.out.o2.alloc _) (some ⟨w4.heap.size, 0, none⟩) 1 1 [.int .i64 (m + x)] (by rfl) rfl (fun j u hu => ⟨_, rfl, cell_one_new w4 _ _ j u hu⟩) (by simp [Value.oneCell']) HB2.out.1 HB2.out.2 HL2.out ?_; intro v5 w5 hown5 hg5 _ hO5; have hT5 := HT4.out.two ((Chg.refl _ w4).alloc _) hg5 hown5 rfl hO5; obtain ⟨al5, L5, cl5, rfl, hL5⟩ := own_nm hT5.o2))
                  go_roundw
                  case rel => exact ⟨j + 1, HLT.out, by go_num, trivial, by rw [H1.out, H2.out]; exact hT5⟩
                  case measure => exact fit_meas j L.e.length HLT.out
                · have ha : drA m x = x := by unfold drA; rw [if_neg hb12, if_neg hb3]
                  have hl : drL m x = m - x := by unfold drL; rw [if_neg hb12, if_neg hb3]
                  rw [ha] at h1
                  rw [hl] at h2
                  clear hb12
                  have H1 := Lib.hid h1
                  have H2 := Lib.hid h2
                  have HB1 := Lib.hid (app_fit hl1)
                  have HB2 := Lib.hid (app_fit hl2)
                  have HL1 := Lib.hid (fun (o : Obj) => le_al hT.ch.size o)
                  have HT := Lib.hid hT
                  have HLT := Lib.hid hlt
                  clear hbad hinv hT h1 h2 hx hm hl1 hl2 hfr hlg hlt hj hjT ha hl
                  go_wp2_with (first
                    | (refine wpList_append_own_any (by rfl) (.tmp 47) (.tmp 49) 22 (by rfl) wb.heap.size 3 i0 (.int .i64 0) 1 8 Try.underlying22 hi hz0 hz1 hz2 rfl (by decide) (.slice fa Lf cf') fr.length (fr.map I) (by rfl) (HT.out.o1.alloc _) (some ⟨wr.heap.size, 0, none⟩) 1 1 [.int .i64 (x)] (by rfl) rfl (fun j u hu => ⟨_, rfl, cell_one_new wr _ _ j u hu⟩) (by simp [Value.oneCell']) HB1.out.1 HB1.out.2 (HL1.out _) ?_; intro v4 w4 hown4 hg4 _ hO4; have hT4 := HT.out.one ((Chg.refl _ wr).alloc _) hg4 hown4 rfl hO4; clear hown4 hg4 hO4; obtain ⟨al4, L4, cl4, rfl, hL4⟩ := own_nm hT4.o1; have HT4 := Lib.hid hT4; have HL2 := Lib.hid (le_al (o := (.cells #[.int .i64 (m - x)] 3)) hT4.ch.size); clear hT4 hL4)
                    | (refine wpList_append_own_any (by rfl) (.tmp 51) (.tmp 55) 22 (by rfl) wb.heap.size 3 i0 (.int .i64 0) 1 8 Try.underlying22 hi hz0 hz1 hz2 rfl (by decide) (.slice ga Lg cg) lg.length (lg.map I) (by rfl) (HT4.out.o2.alloc _) (some ⟨w4.heap.size, 0, none⟩) 1 1 [.int .i64 (m - x)] (by rfl) rfl (fun j u hu => ⟨_, rfl, cell_one_new w4 _ _ j u hu⟩) (by simp [Value.oneCell']) HB2.out.1 HB2.out.2 HL2.out ?_; intro v5 w5 hown5 hg5 _ hO5; have hT5 := HT4.out.two ((Chg.refl _ w4).alloc _) hg5 hown5 rfl hO5; obtain ⟨al5, L5, cl5, rfl, hL5⟩ := own_nm hT5.o2))
                  go_roundw
                  case rel => exact ⟨j + 1, HLT.out, by go_num, trivial, by rw [H1.out, H2.out]; exact hT5⟩
                  case measure => exact fit_meas j L.e.length HLT.out
          · obtain rfl : j = L.e.length := by omega
            skip
            rw [List.take_of_length_le (by rw [HFL.out.1]; exact Nat.le_refl _), List.take_of_length_le (by rw [HFL.out.2]; exact Nat.le_refl _)] at hT
            have hwin := r13window_any _ _ _ T FR LG wr (HSB.out.fr hT.ch) hT.o1.ls hT.o2.ls (by rw [HFL.out.1, HFL.out.2]) (by
              rw [← HFR.out]
              refine zw_mem (P := fun y => -10000 ≤ y ∧ y ≤ 10000) fun m hm x hx => ?_
              show -10000 ≤ drA m x ∧ drA m x ≤ 10000
              have := (shB_iff.1 HSS.out).2.1 m hm
              unfold drA; split <;> (try split) <;> omega) (by rw [HFL.out.2]; exact hle)
            have HRES := Lib.hid (show drW L s = winW T FR LG by rw [HOK.out hinv, HFR.out, HLG.out])
            obtain ⟨Y, hY⟩ : ∃ Y, winW T FR LG = Y := ⟨_, rfl⟩
            rw [hY] at hwin HRES
            obtain ⟨fa, Lf, cf', rfl, hLf⟩ := own_nm hT.o1
            obtain ⟨ga, Lg, cg, rfl, hLg⟩ := own_nm hT.o2
            have HCH := Lib.hid hT.ch
            have hrw := Nat.lt_of_lt_of_le HRB.out.lt hT.ch.size
            have HRW := Lib.hid hrw
            clear hT hinv hY hLf hLg hlt hj hrw
            go_wp2_with fail
            refine hwin.mono ?_
            clear hwin
            rintro e9 w5 ⟨vs, vo, vp, rfl, ⟨o1, o2, o3⟩, hC5⟩
            obtain ⟨sa1, Ls1, cs1, rfl, hL1⟩ := own_nm o1
            obtain ⟨oa1, Lo1, co1, rfl, hL2⟩ := own_nm o2
            obtain ⟨pa1, Lp1, cp1, rfl, hL3⟩ := own_nm o3
            obtain ⟨z0, z1, z2, k0, k1, k2⟩ := (HRB.out.fr HCH.out).fr hC5
            obtain ⟨⟨g0, g1⟩, g2⟩ := set3_cells (.slice sa1 Ls1 cs1) (.slice oa1 Lo1 co1) (.slice pa1 Lp1 cp1) z0 z1 z2
            clear hL1 hL2 hL3
            go_wp2
            simp [bodyPost, results, Try.results21, go_sem, g0, g1, g2]
            rw [HRES.out]
            exact gx_pass o1 o2 o3 (Nat.le_succ _) HRW.out ((HCB.out.tr HCH.out).tr hC5)
      · have b1 : ((L.e.length : Int) != (d : Int)) = true := by simp only [bne_iff_ne, ne_eq]; omega
        have HLN := Lib.hid (dr_len HE0.out (by rw [HTS.out, HTL.out]; exact hlen))
        clear hlen
        obtain ⟨z0, z1, z2, f0, f1, f2⟩ := HRB.out
        obtain ⟨⟨g0, g1⟩, g2⟩ := set3_cells (.slice none 0 0) (.slice none 0 0) (.slice none 0 0) z0 z1 z2
        skip
        go_wp2
        simp [bodyPost, results, Try.results21, go_sem, g0, g1, g2]
        rw [HLN.out]
        exact gx_no (Nat.le_succ _) HCB.out
  · have HR := Lib.hid (bth_dr hE)
    obtain ⟨E, hEe⟩ : ∃ E, bthE L s = E := ⟨_, rfl⟩
    rw [hEe] at hbt hE
    have hb : (E != 0) = true := bne_iff_ne.2 hE
    have HE := Lib.hid hEe
    generalize bthL L s = xs at *
    clear hL' hS hs he hEe
    go_enter Try.func21, Try.ntmps21
    go_wp2_with fail
    refine hbt.mono ?_
    clear hbt x0 x1 x2
    rintro e9 w1 ⟨v1, rfl, ho1, hC1⟩
    obtain ⟨a1, c1, rfl⟩ := own_name ho1
    clear ho1
    obtain ⟨z0, z1, z2, f0, f1, f2⟩ := hR0.fr hC1
    obtain ⟨⟨g0, g1⟩, g2⟩ := set3_cells (.slice none 0 0) (.slice none 0 0) (.slice none 0 0) z0 z1 z2
    skip
    go_wp2
    simp [bodyPost, results, Try.results21, go_sem, g0, g1, g2]
    rw [HR.out, HE.out]
    exact gx_no (Nat.le_succ _) (hC0.tr hC1)
end Go.Proofs.Ytceooipljhjpaaa
