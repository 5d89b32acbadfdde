/- pick: index. -/
import Derived.Test.YtnjnajbdpaaikaaPlG
namespace Go.Proofs.Ytnjnajbdpaaikaa
open Go.RowKit Go.Shelf

theorem ixW_ok {s : List Int} {L : List Ax} (h : (ixW s L).n = 0) : shB (ixW s L).s = true ∧ ((ixW s L).g.length : Int) = prodL (ixW s L).s := by
  unfold ixW at h ⊢
  by_cases hz : ixE s L = 0
  · rw [if_pos hz]
    have hs := (ixE_zero hz).2.2.2.2.1
    refine ⟨hs, ?_⟩
    have h0 := prodL_nonneg (ixS s L) (fun l hl => ((shB_iff.1 hs).2.1 l hl).1)
    simp only [List.length_map, List.length_range]
    omega
  · rw [if_neg hz] at h
    exact absurd h hz
set_option maxRecDepth 100000 in
set_option maxHeartbeats 2000000 in
theorem index_any (u v : Value) (A : Ar) (L : List Ax) (w : World) (hA : Ara w u A) (hL : Axs w v L) (hle : A.e.length ≤ 1000000) (hel : ∀ x ∈ L, x.a.e.length ≤ 1000000) (hLl : L.length ≤ 1000000) : Calls Try.prog 16 #[u, v] w (GaveAE w (pgA (ixW A.s L) A) (pgN (ixW A.s L) A)) := by
  have hck := fun w' (h : Chg (fun _ => False) w w') => check_any u A w' (hA.fr h) hle
  have hcw := fun (x : Value) w' (h : Chg (fun _ => False) w w') (hx : Ls w' x A.s) => iway_any x v A.s L w' hx (hL.fr h) hel hLl
  obtain ⟨vs, ve, rfl, hs, he⟩ := hA
  obtain ⟨sa, cs, rfl, _⟩ := hs.form
  obtain ⟨ea, ce, rfl, _⟩ := he.form
  obtain ⟨la, cl, rfl, _⟩ := hL.form
  obtain ⟨y0, y1, y2⟩ := cell_two w (.int .i64 A.k) (.slice sa A.s.length cs) (.slice ea A.e.length ce) 25
  have hK1 := (Chg.refl (fun _ => False) w).alloc (.cells #[.int .i64 A.k, .slice sa A.s.length cs, .slice ea A.e.length ce] 25)
  have hK2 := (Chg.refl (fun _ => False) (w.alloc (.cells #[.int .i64 A.k, .slice sa A.s.length cs, .slice ea A.e.length ce] 25))).alloc (.cells #[.int .i64 0, .slice none 0 0, .slice none 0 0] 25)
  have hB := Bx.new (w.alloc (.cells #[.int .i64 A.k, .slice sa A.s.length cs, .slice ea A.e.length ce] 25)) (.int .i64 0) (.slice none 0 0) (.slice none 0 0) 25
  rw [World.size_alloc] at hB
  replace y0 := hK2.cell y0 id
  replace y1 := hK2.cell y1 id
  replace y2 := hK2.cell y2 id
  have hC0 := hK1.tr hK2
  have HT := Lib.hid hs
  have hck1 := hck _ hC0
  have HC := Lib.hid hC0
  have HE2 := Lib.hid he
  have HL2 := Lib.hid hle
  clear hs he hK1 hK2 hC0 hck hL
  cases hcb : chkB A with
  | false =>
    rw [show chkE A = 110 by unfold chkE; rw [hcb]; rfl] at hck1
    have HR := Lib.hid (show pgN (ixW A.s L) A = 110 ∧ pgA (ixW A.s L) A = noA by unfold pgN pgA; rw [hcb]; exact ⟨rfl, rfl⟩)
    clear hcb hcw
    go_enter Try.func16, Try.ntmps16
    go_wp2_with fail
    refine hck1.mono ?_
    clear hck1
    rintro e9 w1 ⟨rfl, hC1⟩
    replace HC := Lib.hid (HC.out.tr hC1)
    replace y0 := hC1.cell y0 id
    replace y1 := hC1.cell y1 id
    replace y2 := hC1.cell y2 id
    replace hB := hB.fr hC1
    clear hC1
    obtain ⟨p0, p1, p2, f0, f1, f2⟩ := hB
    obtain ⟨⟨g0, g1⟩, g2⟩ := set3_cells (.int .i64 0) (.slice none 0 0) (.slice none 0 0) p0 p1 p2
    go_wp2
    simp [bodyPost, results, Try.results16, go_sem, g0, g1, g2]
    rw [HR.out.1, HR.out.2]
    exact leaveNo (Nat.le_succ _) HC.out
  | true =>
    rw [show chkE A = 0 by unfold chkE; rw [hcb]; rfl] at hck1
    have HCB := Lib.hid hcb
    have HCW := Lib.hid hcw
    clear hcb hcw
    go_enter Try.func16, Try.ntmps16
    go_wp2_with fail
    refine hck1.mono ?_
    clear hck1
    rintro e9 w1 ⟨rfl, hC1⟩
    replace HC := Lib.hid (HC.out.tr hC1)
    replace y0 := hC1.cell y0 id
    replace y1 := hC1.cell y1 id
    replace y2 := hC1.cell y2 id
    replace hB := hB.fr hC1
    clear hC1
    have hcw1 := HCW.out _ _ HC.out (HT.out.fr HC.out)
    unfold GaveW GaveWD at hcw1
    have hok := @ixW_ok A.s L
    obtain ⟨Y, hY⟩ : ∃ Y, ixW A.s L = Y := ⟨_, rfl⟩
    rw [hY] at hcw1 hok ⊢
    have HGD := Lib.hid hok
    have HYQ := Lib.hid hY
    clear hY hok
    go_wp2_with fail
    refine hcw1.mono ?_
    clear hcw1
    rintro e9 w3 ⟨v3, D3, rfl, hW3, hD3, hC3⟩
    replace HC := Lib.hid (HC.out.tr hC3)
    replace y0 := hC3.cell y0 id
    replace y1 := hC3.cell y1 id
    replace y2 := hC3.cell y2 id
    replace hB := hB.fr hC3
    clear hC3
    -- behind the way: w3, its value v3
    by_cases hn : Y.n = 0
    · have HN := Lib.hid hn
      obtain ⟨_, vs3, gf3, lb3, rfl, hs3, hd3, hf3⟩ := id (hW3.resolve_right (fun h => h.1 HN.out))
      obtain ⟨a3, c3, rfl, _⟩ := hs3.form
      obtain ⟨wl, hwl⟩ : ∃ wl, Y.s.length = wl := ⟨_, rfl⟩
      rw [hwl, hn]
      rw [hwl] at hW3
      have HW3 := Lib.hid hW3
      clear hs3 hd3 hf3 hW3 hn hD3 hwl
      have HR := Lib.hid (show pgN Y A = goN A.k Y.s Y.g [A] ∧ pgA Y A = goA A.k Y.s Y.g [A] by unfold pgN pgA; rw [HCB.out, if_pos HN.out, if_pos HN.out]; exact ⟨rfl, rfl⟩)
      have hCn := ((Chg.refl (fun _ => False) w3).alloc (.cells #[.slice a3 wl c3, .func (.func gf3) #[] lb3] 52)).alloc (.cells #[.int .i64 A.k, .slice sa A.s.length cs, .slice ea A.e.length ce] 25)
      have q2 := new_cell (w3.alloc (.cells #[.slice a3 wl c3, .func (.func gf3) #[] lb3] 52)) #[.int .i64 A.k, .slice sa A.s.length cs, .slice ea A.e.length ce] 25 (i := 2) rfl
      rw [World.size_alloc] at q2
      have hgo := mgo_any _ (.slice (some ⟨w3.heap.size + 1, 0, none⟩) 1 1) A.k Y.s Y.g D3 [A] _ (show WayAt _ D3 _ ⟨Y.s, Y.g, 0⟩ by
        have h : (⟨Y.s, Y.g, Y.n⟩ : Wy) = Y := rfl
        rw [HN.out] at h
        rw [h]
        exact HW3.out.fr hCn) (HGD.out HN.out).1 (HGD.out HN.out).2 ⟨some ⟨w3.heap.size + 1, 0, none⟩, 1, rfl, fun j hj => ⟨w3.heap.size + 1, 0, rfl, by
          have hj2 : j < 1 := hj
          obtain rfl : j = 0 := by omega
          exact ⟨_, q2, HE2.out.fr (HC.out.tr hCn)⟩⟩⟩ (fun A hA => by
          rw [List.mem_singleton] at hA
          subst hA
          exact HL2.out)
      have HC2 := Lib.hid (HC.out.tr hCn)
      have hB4 := hB.fr hCn
      have hb4 : w.heap.size + 1 < ((w3.alloc (.cells #[.slice a3 wl c3, .func (.func gf3) #[] lb3] 52)).alloc (.cells #[.int .i64 A.k, .slice sa A.s.length cs, .slice ea A.e.length ce] 25)).heap.size := hB4.lt
      have HB4 := Lib.hid hb4
      have hsz : w.heap.size + 1 < w3.heap.size := hB.lt
      have hsz1 : w.heap.size + 1 < w3.heap.size := by omega
      have hsz0 : w.heap.size < w3.heap.size := by omega
      clear hb4 hB q2
      go_wp2_with fail
      refine hgo.mono ?_
      clear hgo hCn
      rintro e9 w4 ⟨v4, rfl, ho4, hC4⟩
      generalize goA A.k Y.s Y.g [A] = AA at *
      generalize goN A.k Y.s Y.g [A] = NN at *
      obtain ⟨a5, c5, a6, c6, hv4, q1, q2⟩ := ara_new ho4
      subst hv4
      obtain ⟨z0', z1', z2', f0, f1, f2⟩ := hB4.fr hC4
      obtain ⟨⟨g0, g1⟩, g2⟩ := set3_cells (.int .i64 AA.k) (.slice a5 AA.s.length c5) (.slice a6 AA.e.length c6) z0' z1' z2'
      have HC4 := Lib.hid (HC2.out.tr hC4)
      clear hC4 ho4 hB4 hsz hsz0 hsz1
      clear y0 y1 y2
      go_wp2
      simp [bodyPost, results, Try.results16, go_sem, g0, g1, g2]
      rw [HYQ.out]
      rw [HR.out.1, HR.out.2]
      show GaveAE w ⟨AA.k, AA.s, AA.e⟩ NN _ _
      exact leaveAE q1 q2 (by omega) HB4.out HB4.out HC4.out
    · obtain ⟨_, _, _, rfl⟩ := hW3.resolve_left (fun h => hn h.1)
      have HR := Lib.hid (show pgN Y A = Y.n ∧ pgA Y A = noA by unfold pgN pgA; rw [HCB.out, if_pos rfl, if_pos rfl, if_neg hn, if_neg hn]; exact ⟨rfl, rfl⟩)
      have b2 : (Y.n != 0) = true := bne_iff_ne.2 hn
      clear hn hW3 hD3
      obtain ⟨n, hn⟩ : ∃ n, Y.n = n := ⟨_, rfl⟩
      rw [hn] at b2 HR ⊢
      clear hn
      obtain ⟨p0, p1, p2, f0, f1, f2⟩ := hB
      have hsz : w.heap.size + 1 < w3.heap.size := cell_lt p0
      have hsz1 : w.heap.size + 1 < w3.heap.size := by omega
      have hsz0 : w.heap.size < w3.heap.size := by omega
      obtain ⟨⟨g0, g1⟩, g2⟩ := set3_cells (.int .i64 0) (.slice none 0 0) (.slice none 0 0) p0 p1 p2
      replace g0 := alloc_cell g0 (.cells #[.slice none 0 0, .nilFunc] 52)
      replace g1 := alloc_cell g1 (.cells #[.slice none 0 0, .nilFunc] 52)
      replace g2 := alloc_cell g2 (.cells #[.slice none 0 0, .nilFunc] 52)
      go_wp2
      simp [bodyPost, results, Try.results16, go_sem, g0, g1, g2]
      rw [HYQ.out]
      rw [HR.out.1, HR.out.2]
      obtain ⟨v9, e9, o9, c9⟩ := leaveNo (w := w) (b := w.heap.size + 1) (n := n) (by omega) HC.out
      exact ⟨v9, e9, o9.fr ((Chg.refl _ _).alloc _), c9.alloc _⟩
end Go.Proofs.Ytnjnajbdpaaikaa
