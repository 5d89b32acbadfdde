/- pick: compress. -/
import Derived.Test.YtnjnajbdpaaikaaPkQ
namespace Go.Proofs.Ytnjnajbdpaaikaa
open Go.RowKit Go.Shelf

/-- What comes of an array by a way: the error, and the array. -/
def pgN (W : Wy) (A : Ar) : Int := if chkB A then (if W.n = 0 then goN A.k W.s W.g [A] else W.n) else 110
def pgA (W : Wy) (A : Ar) : Ar := if chkB A then (if W.n = 0 then goA A.k W.s W.g [A] else noA) else noA
theorem cpW_ok {L : Ar} {s : List Int} (h : (cpW L s).n = 0) : shB (cpW L s).s = true ∧ ((cpW L s).g.length : Int) = prodL (cpW L s).s := by
  unfold cpW at h ⊢
  by_cases hz : cpE L s = 0
  · rw [if_pos hz]
    have hs : shB (cpTo L s) = true := by
      unfold cpE at hz
      split at hz
      · split at hz
        · split at hz
          · cases hz
          · split at hz
            · cases hz
            · split at hz
              · rename_i q; exact q.2
              · cases hz
        · rename_i q; exact absurd hz q
      · cases hz
    refine ⟨hs, ?_⟩
    have h0 := prodL_nonneg (cpTo L s) (fun l hl => ((shB_iff.1 hs).2.1 l hl).1)
    simp only [List.length_map, List.length_range]
    omega
  · rw [if_neg hz] at h
    exact absurd h hz
set_option maxRecDepth 100000 in
set_option maxHeartbeats 2000000 in
theorem compress_any (u v : Value) (A B : Ar) (w : World) (hA : Ara w u A) (hBB : Ara w v B) (hle : A.e.length ≤ 1000000) (hle2 : B.e.length ≤ 1000000) : Calls Try.prog 25 #[u, v] w (GaveAE w (pgA (cpW A B.s) B) (pgN (cpW A B.s) B)) := by
  have hck := fun w' (h : Chg (fun _ => False) w w') => check_any v B w' (hBB.fr h) hle2
  have hcw := fun (x : Value) w' (h : Chg (fun _ => False) w w') (hx : Ls w' x B.s) => cway_any u x A B.s w' (hA.fr h) hx hle
  obtain ⟨vs, ve, rfl, hs, he⟩ := hA
  obtain ⟨us, ue, rfl, ht, hf⟩ := hBB
  have HEL := Lib.hid (And.intro he hf)
  have HSH := Lib.hid ht
  obtain ⟨sa, cs, rfl, _⟩ := hs.form
  obtain ⟨ea, ce, rfl, _⟩ := he.form
  obtain ⟨ta, ct, rfl, _⟩ := ht.form
  obtain ⟨fa, cf, rfl, _⟩ := hf.form
  obtain ⟨y0, y1, y2⟩ := cell_two w (.int .i64 A.k) (.slice sa A.s.length cs) (.slice ea A.e.length ce) 25
  obtain ⟨z0, z1, z2⟩ := cell_two (w.alloc (.cells #[.int .i64 A.k, .slice sa A.s.length cs, .slice ea A.e.length ce] 25)) (.int .i64 B.k) (.slice ta B.s.length ct) (.slice fa B.e.length cf) 25
  have hK1 := (Chg.refl (fun _ => False) (w.alloc (.cells #[.int .i64 A.k, .slice sa A.s.length cs, .slice ea A.e.length ce] 25))).alloc (.cells #[.int .i64 B.k, .slice ta B.s.length ct, .slice fa B.e.length cf] 25)
  have hK2 := (Chg.refl (fun _ => False) ((w.alloc (.cells #[.int .i64 A.k, .slice sa A.s.length cs, .slice ea A.e.length ce] 25)).alloc (.cells #[.int .i64 B.k, .slice ta B.s.length ct, .slice fa B.e.length cf] 25))).alloc (.cells #[.int .i64 0, .slice none 0 0, .slice none 0 0] 25)
  have hB := Bx.new ((w.alloc (.cells #[.int .i64 A.k, .slice sa A.s.length cs, .slice ea A.e.length ce] 25)).alloc (.cells #[.int .i64 B.k, .slice ta B.s.length ct, .slice fa B.e.length cf] 25)) (.int .i64 0) (.slice none 0 0) (.slice none 0 0) 25
  rw [World.size_alloc, World.size_alloc] at hB
  replace y0 := hK2.cell (hK1.cell y0 id) id
  replace y1 := hK2.cell (hK1.cell y1 id) id
  replace y2 := hK2.cell (hK1.cell y2 id) id
  replace z0 := hK2.cell z0 id
  replace z1 := hK2.cell z1 id
  replace z2 := hK2.cell z2 id
  rw [World.size_alloc] at z0 z1 z2
  have hC0 := (((Chg.refl (fun _ => False) w).alloc (.cells #[.int .i64 A.k, .slice sa A.s.length cs, .slice ea A.e.length ce] 25)).tr hK1).tr hK2
  have HT := Lib.hid ht
  have hck1 := hck _ hC0
  have HC := Lib.hid hC0
  have HE2 := Lib.hid hf
  have HL2 := Lib.hid hle2
  clear hs he ht hf hK1 hK2 hC0 hck
  cases hcb : chkB B with
  | false =>
    rw [show chkE B = 110 by unfold chkE; rw [hcb]; rfl] at hck1
    have HR := Lib.hid (show pgN (cpW A B.s) B = 110 ∧ pgA (cpW A B.s) B = noA by unfold pgN pgA; rw [hcb]; exact ⟨rfl, rfl⟩)
    clear hcb hcw
    go_enter Try.func25, Try.ntmps25
    go_wp2_with fail
    refine hck1.mono ?_
    clear hck1
    rintro e9 w1 ⟨rfl, hC1⟩
    replace HC := Lib.hid (HC.out.tr hC1)
    replace y0 := hC1.cell y0 id
    replace y1 := hC1.cell y1 id
    replace y2 := hC1.cell y2 id
    replace z0 := hC1.cell z0 id
    replace z1 := hC1.cell z1 id
    replace z2 := hC1.cell z2 id
    replace hB := hB.fr hC1
    clear hC1
    obtain ⟨p0, p1, p2, f0, f1, f2⟩ := hB
    obtain ⟨⟨g0, g1⟩, g2⟩ := set3_cells (.int .i64 0) (.slice none 0 0) (.slice none 0 0) p0 p1 p2
    go_wp2
    simp [bodyPost, results, Try.results25, go_sem, g0, g1, g2]
    rw [HR.out.1, HR.out.2]
    exact leaveNo (Nat.le_trans (Nat.le_succ _) (Nat.le_succ _)) HC.out
  | true =>
    rw [show chkE B = 0 by unfold chkE; rw [hcb]; rfl] at hck1
    have HCB := Lib.hid hcb
    have HCW := Lib.hid hcw
    clear hcb hcw
    go_enter Try.func25, Try.ntmps25
    go_wp2_with fail
    refine hck1.mono ?_
    clear hck1
    rintro e9 w1 ⟨rfl, hC1⟩
    replace HC := Lib.hid (HC.out.tr hC1)
    replace y0 := hC1.cell y0 id
    replace y1 := hC1.cell y1 id
    replace y2 := hC1.cell y2 id
    replace z0 := hC1.cell z0 id
    replace z1 := hC1.cell z1 id
    replace z2 := hC1.cell z2 id
    replace hB := hB.fr hC1
    clear hC1
    have hcw1 := HCW.out _ _ HC.out (HT.out.fr HC.out)
    unfold GaveW GaveWD at hcw1
    have hok := @cpW_ok A B.s
    obtain ⟨Y, hY⟩ : ∃ Y, cpW A B.s = Y := ⟨_, rfl⟩
    rw [hY] at hcw1 hok ⊢
    have HGD := Lib.hid hok
    have HYQ := Lib.hid hY
    clear hY hok
    go_wp2_with fail
    refine hcw1.mono ?_
    clear hcw1
    rintro e9 w3 ⟨v3, D3, rfl, hW3, hD3, hC3⟩
    replace HC := Lib.hid (HC.out.tr hC3)
    replace y0 := hC3.cell y0 id
    replace y1 := hC3.cell y1 id
    replace y2 := hC3.cell y2 id
    replace z0 := hC3.cell z0 id
    replace z1 := hC3.cell z1 id
    replace z2 := hC3.cell z2 id
    replace hB := hB.fr hC3
    clear hC3
    -- behind the way: w3, its value v3
    by_cases hn : Y.n = 0
    · have HN := Lib.hid hn
      obtain ⟨_, vs3, gf3, lb3, rfl, hs3, hd3, hf3⟩ := id (hW3.resolve_right (fun h => h.1 HN.out))
      obtain ⟨a3, c3, rfl, _⟩ := hs3.form
      obtain ⟨wl, hwl⟩ : ∃ wl, Y.s.length = wl := ⟨_, rfl⟩
      rw [hwl, hn]
      rw [hwl] at hW3
      have HW3 := Lib.hid hW3
      clear hs3 hd3 hf3 hW3 hn hD3 hwl
      have HR := Lib.hid (show pgN Y B = goN B.k Y.s Y.g [B] ∧ pgA Y B = goA B.k Y.s Y.g [B] by unfold pgN pgA; rw [HCB.out, if_pos HN.out, if_pos HN.out]; exact ⟨rfl, rfl⟩)
      have hCn := ((Chg.refl (fun _ => False) w3).alloc (.cells #[.slice a3 wl c3, .func (.func gf3) #[] lb3] 52)).alloc (.cells #[.int .i64 B.k, .slice ta B.s.length ct, .slice fa B.e.length cf] 25)
      have q2 := new_cell (w3.alloc (.cells #[.slice a3 wl c3, .func (.func gf3) #[] lb3] 52)) #[.int .i64 B.k, .slice ta B.s.length ct, .slice fa B.e.length cf] 25 (i := 2) rfl
      rw [World.size_alloc] at q2
      have hgo := mgo_any _ (.slice (some ⟨w3.heap.size + 1, 0, none⟩) 1 1) B.k Y.s Y.g D3 [B] _ (show WayAt _ D3 _ ⟨Y.s, Y.g, 0⟩ by
        have h : (⟨Y.s, Y.g, Y.n⟩ : Wy) = Y := rfl
        rw [HN.out] at h
        rw [h]
        exact HW3.out.fr hCn) (HGD.out HN.out).1 (HGD.out HN.out).2 ⟨some ⟨w3.heap.size + 1, 0, none⟩, 1, rfl, fun j hj => ⟨w3.heap.size + 1, 0, rfl, by
          have hj2 : j < 1 := hj
          obtain rfl : j = 0 := by omega
          exact ⟨_, q2, HE2.out.fr (HC.out.tr hCn)⟩⟩⟩ (fun A hA => by
          rw [List.mem_singleton] at hA
          subst hA
          exact HL2.out)
      have HC2 := Lib.hid (HC.out.tr hCn)
      have hB4 := hB.fr hCn
      have hb4 : w.heap.size + 1 + 1 < ((w3.alloc (.cells #[.slice a3 wl c3, .func (.func gf3) #[] lb3] 52)).alloc (.cells #[.int .i64 B.k, .slice ta B.s.length ct, .slice fa B.e.length cf] 25)).heap.size := hB4.lt
      have HB4 := Lib.hid hb4
      have hsz : w.heap.size + 1 + 1 < w3.heap.size := hB.lt
      have hsz1 : w.heap.size + 1 < w3.heap.size := by omega
      have hsz0 : w.heap.size < w3.heap.size := by omega
      clear hb4 hB q2
      go_wp2_with fail
      refine hgo.mono ?_
      clear hgo hCn
      rintro e9 w4 ⟨v4, rfl, ho4, hC4⟩
      generalize goA B.k Y.s Y.g [B] = AA at *
      generalize goN B.k Y.s Y.g [B] = NN at *
      obtain ⟨a5, c5, a6, c6, hv4, q1, q2⟩ := ara_new ho4
      subst hv4
      obtain ⟨z0', z1', z2', f0, f1, f2⟩ := hB4.fr hC4
      obtain ⟨⟨g0, g1⟩, g2⟩ := set3_cells (.int .i64 AA.k) (.slice a5 AA.s.length c5) (.slice a6 AA.e.length c6) z0' z1' z2'
      have HC4 := Lib.hid (HC2.out.tr hC4)
      clear hC4 ho4 hB4 hsz hsz0 hsz1
      clear y0 y1 y2 z0 z1 z2
      go_wp2
      simp [bodyPost, results, Try.results25, go_sem, g0, g1, g2]
      rw [HYQ.out]
      rw [HR.out.1, HR.out.2]
      show GaveAE w ⟨AA.k, AA.s, AA.e⟩ NN _ _
      exact leaveAE q1 q2 (by omega) HB4.out HB4.out HC4.out
    · obtain ⟨_, _, _, rfl⟩ := hW3.resolve_left (fun h => hn h.1)
      have HR := Lib.hid (show pgN Y B = Y.n ∧ pgA Y B = noA by unfold pgN pgA; rw [HCB.out, if_pos rfl, if_pos rfl, if_neg hn, if_neg hn]; exact ⟨rfl, rfl⟩)
      have b2 : (Y.n != 0) = true := bne_iff_ne.2 hn
      clear hn hW3 hD3
      obtain ⟨n, hn⟩ : ∃ n, Y.n = n := ⟨_, rfl⟩
      rw [hn] at b2 HR ⊢
      clear hn
      obtain ⟨p0, p1, p2, f0, f1, f2⟩ := hB
      have hsz : w.heap.size + 1 + 1 < w3.heap.size := cell_lt p0
      have hsz1 : w.heap.size + 1 < w3.heap.size := by omega
      have hsz0 : w.heap.size < w3.heap.size := by omega
      obtain ⟨⟨g0, g1⟩, g2⟩ := set3_cells (.int .i64 0) (.slice none 0 0) (.slice none 0 0) p0 p1 p2
      replace g0 := alloc_cell g0 (.cells #[.slice none 0 0, .nilFunc] 52)
      replace g1 := alloc_cell g1 (.cells #[.slice none 0 0, .nilFunc] 52)
      replace g2 := alloc_cell g2 (.cells #[.slice none 0 0, .nilFunc] 52)
      go_wp2
      simp [bodyPost, results, Try.results25, go_sem, g0, g1, g2]
      rw [HYQ.out]
      rw [HR.out.1, HR.out.2]
      obtain ⟨v9, e9, o9, c9⟩ := leaveNo (w := w) (b := w.heap.size + 1 + 1) (n := n) (by omega) HC.out
      exact ⟨v9, e9, o9.fr ((Chg.refl _ _).alloc _), c9.alloc _⟩
end Go.Proofs.Ytnjnajbdpaaikaa
