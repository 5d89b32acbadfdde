/- slices' stable sort: a symmetric merge whose second part is a single element. -/
import Derived.Test.YtnjnajbdpaaikaaPkW
namespace Go.Proofs.Ytnjnajbdpaaikaa
open Go.RowKit Go.Shelf

set_option maxRecDepth 100000 in
set_option maxHeartbeats 2000000 in
theorem sym_right (base g n c : Nat) (p u q : List Int) (y : Int) (a m b : Nat) (gf : Nat) (ob : Value) (K : Int → Int) (Dm : Int → Prop) (w : World) (h : AtG w base g n c (p ++ (u ++ (y :: q)))) (ha : a = p.length) (hm : m = p.length + u.length) (hb : b = m + 1) (hu1 : 2 ≤ u.length)
    (hu : Srt K u) (hah : ∀ x ∈ u, x < y) (hD : Dm y ∧ ∀ z ∈ u, Dm z) (hcmp : CmpAt w g gf ob K Dm) (hn : n ≤ 1000000) :
    Calls Try.prog 99 #[.slice (some ⟨g, 0, none⟩) n c, .int .i64 a, .int .i64 m, .int .i64 b, .func (.func gf) #[ob] #[]] w (GaveSrt w base g n c K p (u ++ [y]) q) := by
  have hlen := h.len
  simp only [List.length_append, List.length_cons] at hlen
  obtain ⟨ul, hul⟩ : ∃ ul, u.length = ul := ⟨_, rfl⟩
  have k1 : IntKind.i64.wrap ((m : Int) - (a : Int)) = (ul : Int) := by rw [IntWalk.i64_in _ (by omega)]; omega
  have k2 : IntKind.i64.wrap ((b : Int) - (m : Int)) = 1 := by rw [IntWalk.i64_in _ (by omega)]; omega
  have k3 : ((ul : Int) == 1) = false := by rw [beq_eq_false_iff_ne]; omega
  have h0 : ∃ i' j' i j, i = a + i' ∧ j = a + j' ∧ i' ≤ j' ∧ j' ≤ u.length ∧ (∀ z, (u.take i')[(u.take i').length - 1]? = some z → Lo K z y) ∧ (∀ z, (u.drop j')[0]? = some z → Lo K y z) ∧ Value.int .i64 (a : Int) = .int .i64 (i : Int) ∧ Value.int .i64 (m : Int) = .int .i64 (j : Int) :=
    ⟨0, u.length, a, m, rfl, by omega, Nat.zero_le _, Nat.le_refl _, fun z hz => by simp at hz, fun z hz => by simp at hz, rfl, rfl⟩
  have HH := Lib.hid (And.intro (And.intro ha (And.intro hm hb)) (And.intro hlen hn))
  have HV := Lib.hid (And.intro hu (And.intro hah hD))
  have HCMP := Lib.hid hcmp
  have eg := hcmp.1
  have HG := Lib.hid h
  have HUL := Lib.hid hul
  clear h ha hm hb hlen hn hu hah hD hcmp hu1 hul
  go_enter Try.func99, Try.ntmps99
  go_wp2
  clear k1 k2 k3
  go_loopw [14, 15] (fun vi vj wr => (∃ i' j' i j, i = a + i' ∧ j = a + j' ∧ i' ≤ j' ∧ j' ≤ u.length ∧ (∀ z, (u.take i')[(u.take i').length - 1]? = some z → Lo K z y) ∧ (∀ z, (u.drop j')[0]? = some z → Lo K y z) ∧ vi = .int .i64 (i : Int) ∧ vj = .int .i64 (j : Int)) ∧ Chg (fun _ => False) w wr) (fun vi vj _ => (intOf vj).toNat - (intOf vi).toNat)
  case atStart => exact ⟨h0, Chg.refl _ _⟩
  case round =>
    obtain ⟨⟨i', j', i, j, hi, hj, hij, hjv, hc1, hc2, rfl, rfl⟩, hC⟩ := hrel
    clear h0
    by_cases hlt : i' < j'
    · obtain ⟨⟨ha, hm, hb⟩, hlen, hn⟩ := HH.out
      have hd : decide (i < j) = true := decide_eq_true (by omega)
      obtain ⟨h, hh⟩ : ∃ h, (i + j) / 2 = h := ⟨_, rfl⟩
      obtain ⟨h', hh'⟩ : ∃ h', h = a + h' := ⟨h - a, by omega⟩
      have hhv : h' < u.length := by omega
      have hij2 : i' ≤ h' ∧ h' < j' := by omega
      have k1 : IntKind.i64.wrap ((i : Int) + (j : Int)) = (i : Int) + (j : Int) := IntWalk.i64_in _ (by omega)
      have k2 : ((i : Int) + (j : Int)) / 2 = (h : Int) := by omega
      have b1 : i ≤ 1000000 := by omega
      have b2 : j ≤ 1000000 := by omega
      have eA : p ++ (u ++ (y :: q)) = (p ++ u.take h') ++ u[h'] :: (u.drop (h' + 1) ++ (y :: q)) := by
        have e1 := List.drop_eq_getElem_cons hhv
        have e2 : u = u.take h' ++ u.drop h' := (List.take_append_drop _ _).symm
        rw [e1] at e2
        conv => lhs; rw [e2]
        simp only [List.append_assoc, List.cons_append]
      obtain ⟨c1, f1, g1⟩ := (HG.out.fr hC).cell eA (j := h) (by rw [List.length_append, List.length_take]; omega)
      obtain ⟨c2, f2, g2⟩ := (HG.out.fr hC).cell (A := p ++ u) (j := m) (by rw [List.append_assoc]) (by rw [List.length_append]; omega)
      have hahv := HV.out.2.1 u[h'] (List.getElem_mem _)
      have hcc := HCMP.out.2 y u[h'] HV.out.2.2.1 (HV.out.2.2.2 _ (List.getElem_mem _)) wr.drew (chg_mg hC.drew)
      have hcl := cmpN_lt (K y) (K u[h'])
      unfold GaveI at hcc
      generalize cmpN (K y) (K u[h']) = cv at hcc hcl
      have HL1 := Lib.hid (show Lo K u[h'] y → _ from fun g => last_take (P := fun z => Lo K z y) hhv g)
      have HL2 := Lib.hid (show Lo K y u[h'] → _ from fun g => head_drop (P := fun z => Lo K y z) hhv g)
      generalize u[h'] = x at *
      have i1 : (0 : Int) ≤ (h : Int) := by omega
      have i2 : (0 : Int) ≤ (m : Int) := by omega
      have i3 : (h : Int) < (n : Int) := by omega
      have i4 : (m : Int) < (n : Int) := by omega
      have k3 : IntKind.i64.wrap ((h : Int) + 1) = ((h + 1 : Nat) : Int) := by rw [IntWalk.i64_in _ (by omega)]; omega
      have KP := Lib.hid (show ∀ w', Chg (fun _ => False) wr w' → (Chg (fun _ => False) wr w' ∧ w'.cell? ⟨g, h, none⟩ = some (.int .i64 x) ∧ w'.cell? ⟨g, m, none⟩ = some (.int .i64 y)) from fun w' h => ⟨h, h.cell c1 id, h.cell c2 id⟩)
      have HC := Lib.hid hC
      have HJ := Lib.hid (And.intro (And.intro hi (And.intro hj hh')) (And.intro hij2 (And.intro hjv (And.intro hc1 hc2))))
      have HU := Lib.hid hahv
      clear eA g1 g2 ha hm hb hlen hn hi hj hij hjv hc1 hc2 hC hlt hh hh' hhv hij2 hahv
      by_cases hK : K y < K x
      · have hcl' : decide (cv < 0) = true := by rw [hcl]; exact decide_eq_true hK
        have HK := Lib.hid hK
        clear hK hcl
        go_wp2
        go_region_held3 (fun w' => Chg (fun _ => False) wr w' ∧ w'.cell? ⟨g, h, none⟩ = some (.int .i64 x) ∧ w'.cell? ⟨g, m, none⟩ = some (.int .i64 y)) ((refine KP.out _ ?_; repeat (first | (with_reducible exact Chg.refl _ _) | (with_reducible refine chg_drew' ?_) | (with_reducible refine Chg.tr ?_ hCP)))) (first | ((with_reducible refine hcc.mono ?_); rintro e9 wP ⟨rfl, hCP⟩))
        all_goals
          rename_i hHd
          have HF := Lib.hid (HC.out.tr hHd.1)
          clear hHd hCP
          go_wp2
          go_roundw
          case rel => exact ⟨⟨i', h', i, h, HJ.out.1.1, HJ.out.1.2.2, HJ.out.2.1.1, by have := HJ.out; omega, HJ.out.2.2.2.1, HL2.out (lo_yes HK.out), rfl, rfl⟩, HF.out⟩
          case measure =>
            have h1 := HJ.out
            simp only [intOf]
            omega
      · have hcl' : decide (cv < 0) = false := by rw [hcl]; exact decide_eq_false hK
        have HK := Lib.hid hK
        clear hK hcl
        go_wp2
        go_region_held3 (fun w' => Chg (fun _ => False) wr w' ∧ w'.cell? ⟨g, h, none⟩ = some (.int .i64 x) ∧ w'.cell? ⟨g, m, none⟩ = some (.int .i64 y)) ((refine KP.out _ ?_; repeat (first | (with_reducible exact Chg.refl _ _) | (with_reducible refine chg_drew' ?_) | (with_reducible refine Chg.tr ?_ hCP)))) (first | ((with_reducible refine hcc.mono ?_); rintro e9 wP ⟨rfl, hCP⟩))
        all_goals
          rename_i hHd
          have HF := Lib.hid (HC.out.tr hHd.1)
          clear hHd hCP
          go_wp2
          go_roundw
          case rel => exact ⟨⟨h' + 1, j', h + 1, j, by have := HJ.out; omega, HJ.out.1.2.1, HJ.out.2.1.2, HJ.out.2.2.1, HL1.out (lo_not HU.out (by have := HK.out; omega)), HJ.out.2.2.2.2, rfl, rfl⟩, HF.out⟩
          case measure =>
            have h1 := HJ.out
            simp only [intOf]
            omega
    · obtain rfl : i' = j' := by omega
      obtain rfl : i = j := by omega
      have hd : decide (i < i) = false := decide_eq_false (by omega)
      obtain ⟨⟨ha, hm, hb⟩, hlen, hn⟩ := HH.out
      have hG := HG.out.fr hC
      have h1 : ∃ t k, k = a + t ∧ i' ≤ t ∧ t ≤ u.length ∧ AtG wr base g n c (p ++ (u.take t ++ (y :: (u.drop t ++ q)))) ∧ Value.int .i64 (m : Int) = .int .i64 (k : Int) :=
        ⟨u.length, m, by omega, hjv, Nat.le_refl _, by simpa using hG, rfl⟩
      have HC := Lib.hid hC
      have HJ := Lib.hid (And.intro hi (And.intro hjv (And.intro hc1 hc2)))
      clear hG ha hm hb hlen hn hi hj hij hjv hc1 hc2 hC hlt
      go_wp2
      obtain ⟨wo, rfl⟩ : ∃ wo : World, wo = wr := ⟨_, rfl⟩
      go_loopw [17] (fun vk wr => (∃ t k, k = a + t ∧ i' ≤ t ∧ t ≤ u.length ∧ AtG wr base g n c (p ++ (u.take t ++ (y :: (u.drop t ++ q)))) ∧ vk = .int .i64 (k : Int)) ∧ Chg (fun q => q = g) wo wr) (fun vk _ => (intOf vk).toNat)
      case atStart => exact ⟨h1, Chg.refl _ _⟩
      case round =>
        obtain ⟨⟨t, k, hk, hti, htu, hG, rfl⟩, hCw⟩ := hrel
        clear h1
        obtain ⟨⟨ha, hm, hb⟩, hlen, hn⟩ := HH.out
        by_cases hlt : i' < t
        · have hd : decide (i < k) = true := decide_eq_true (by have := HJ.out; omega)
          obtain ⟨s, rfl⟩ : ∃ s, t = s + 1 := ⟨t - 1, by omega⟩
          have hsu : s < u.length := by omega
          have e1 := List.drop_eq_getElem_cons hsu
          have e2 := List.take_succ_eq_append_getElem hsu
          obtain ⟨k1, hk1⟩ : ∃ k1, a + s = k1 := ⟨_, rfl⟩
          have eA : p ++ (u.take (s + 1) ++ (y :: (u.drop (s + 1) ++ q))) = (p ++ u.take s) ++ u[s] :: ([] ++ y :: (u.drop (s + 1) ++ q)) := by rw [e2]; simp only [List.append_assoc, List.cons_append, List.nil_append]
          have eB : p ++ (u.take (s + 1) ++ (y :: (u.drop (s + 1) ++ q))) = (p ++ u.take s ++ [u[s]]) ++ y :: (u.drop (s + 1) ++ q) := by rw [e2]; simp only [List.append_assoc, List.cons_append, List.nil_append]
          have hl : (p ++ u.take s).length = k1 := by rw [List.length_append, List.length_take]; omega
          obtain ⟨c1, f1, g1⟩ := hG.cell eA hl.symm
          obtain ⟨c2, f2, g2⟩ := hG.cell eB (j := k) (by rw [List.length_append, hl, List.length_singleton]; omega)
          have hex := hG.exch eA hl.symm (j := k) (by rw [hl, List.length_nil]; omega)
          rw [show (p ++ u.take s) ++ y :: ([] ++ u[s] :: (u.drop (s + 1) ++ q)) = p ++ (u.take s ++ (y :: (u.drop s ++ q))) by rw [e1]; simp only [List.append_assoc, List.cons_append, List.nil_append]] at hex
          have HEX := Lib.hid hex
          generalize u[s] = x at *
          have k3 : IntKind.i64.wrap ((k : Int) - 1) = (k1 : Int) := by rw [IntWalk.i64_in _ (by omega)]; omega
          have i1 : (0 : Int) ≤ (k : Int) := by omega
          have i2 : (0 : Int) ≤ (k1 : Int) := by omega
          have i3 : (k : Int) < (n : Int) := by omega
          have i4 : (k1 : Int) < (n : Int) := by omega
          have hne : ¬ k = k1 := by omega
          have HCw := Lib.hid hCw
          have HT := Lib.hid (And.intro hk1 (And.intro hk (And.intro hlt htu)))
          clear hG hex eA eB e1 e2 hl g1 g2 ha hm hb hlen hn hk hti hlt hCw hsu htu hk1
          go_wp2
          go_region
          all_goals
            go_wp2
            go_roundw
            case rel => exact ⟨⟨s, k1, HT.out.1.symm, by have := HT.out; omega, by have := HT.out; omega, HEX.out.2.1.fr ((Chg.refl _ _).drew), rfl⟩, (chg_g HCw.out HEX.out.2.2.2).drew⟩
            case measure =>
              have h1 := HT.out
              simp only [intOf]
              omega
        · obtain rfl : t = i' := by omega
          have hd : decide (i < k) = false := decide_eq_false (by have := HJ.out; omega)
          have HGf := Lib.hid (show GaveSrt w base g n c K p (u ++ [y]) q (.returned (.tuple #[])) wr from ⟨u.take t ++ y :: u.drop t, by
            refine List.perm_middle.trans ?_
            rw [List.take_append_drop]
            exact (List.perm_append_singleton _ _).symm, srt_ins (by rw [List.take_append_drop]; exact HV.out.1) HJ.out.2.2.1 HJ.out.2.2.2, rfl, by simpa using hG, chg_g (chg_mg HC.out) hCw⟩)
          clear hG ha hm hb hlen hn hk hti hlt hCw htu
          go_wp2
          go_end0
          exact HGf.out
end Go.Proofs.Ytnjnajbdpaaikaa
