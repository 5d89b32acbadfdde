/- slices' stable sort: a symmetric merge where one part is a single element. -/
import Derived.Test.YtnjnajbdpaaikaaPkV
namespace Go.Proofs.Ytnjnajbdpaaikaa
open Go.RowKit Go.Shelf

theorem last_take {α : Type} {v : List α} {h : Nat} (hh : h < v.length) {P : α → Prop} (g : P v[h]) : ∀ z, (v.take (h + 1))[(v.take (h + 1)).length - 1]? = some z → P z := by
  intro z hz
  rw [List.length_take, Nat.min_eq_left (by omega), Nat.add_sub_cancel, List.getElem?_take_of_lt (by omega), List.getElem?_eq_getElem hh] at hz
  cases hz
  exact g
theorem head_drop {α : Type} {v : List α} {h : Nat} (hh : h < v.length) {P : α → Prop} (g : P v[h]) : ∀ z, (v.drop h)[0]? = some z → P z := by
  intro z hz
  rw [List.drop_eq_getElem_cons hh] at hz
  cases hz
  exact g
theorem half_uint (x : Nat) (hx : x ≤ 4000000) : IntKind.u64.wrap (x : Int) = (x : Int) := by rw [IntKind.wrap_u64]; omega
set_option maxRecDepth 100000 in
set_option maxHeartbeats 2000000 in
theorem sym_left (base g n c : Nat) (p v q : List Int) (x : Int) (a m b : Nat) (gf : Nat) (ob : Value) (K : Int → Int) (Dm : Int → Prop) (w : World) (h : AtG w base g n c (p ++ (x :: (v ++ q)))) (ha : a = p.length) (hm : m = p.length + 1) (hb : b = p.length + 1 + v.length)
    (hv : Srt K v) (hah : ∀ y ∈ v, x < y) (hD : Dm x ∧ ∀ z ∈ v, Dm z) (hcmp : CmpAt w g gf ob K Dm) (hn : n ≤ 1000000) :
    Calls Try.prog 99 #[.slice (some ⟨g, 0, none⟩) n c, .int .i64 a, .int .i64 m, .int .i64 b, .func (.func gf) #[ob] #[]] w (GaveSrt w base g n c K p (x :: v) q) := by
  have hlen := h.len
  simp only [List.length_append, List.length_cons] at hlen
  have k1 : IntKind.i64.wrap ((m : Int) - (a : Int)) = 1 := by rw [IntWalk.i64_in _ (by omega)]; omega
  have h0 : ∃ i' j' i j, i = m + i' ∧ j = m + j' ∧ i' ≤ j' ∧ j' ≤ v.length ∧ (∀ z, (v.take i')[(v.take i').length - 1]? = some z → Lo K z x) ∧ (∀ z, (v.drop j')[0]? = some z → Lo K x z) ∧ Value.int .i64 (m : Int) = .int .i64 (i : Int) ∧ Value.int .i64 (b : Int) = .int .i64 (j : Int) :=
    ⟨0, v.length, m, b, rfl, by omega, Nat.zero_le _, Nat.le_refl _, fun z hz => by simp at hz, fun z hz => by simp at hz, rfl, rfl⟩
  have HH := Lib.hid (And.intro (And.intro ha (And.intro hm hb)) (And.intro hlen hn))
  have HV := Lib.hid (And.intro hv (And.intro hah hD))
  have HCMP := Lib.hid hcmp
  have eg := hcmp.1
  have HG := Lib.hid h
  clear h ha hm hb hlen hn hv hah hD hcmp
  go_enter Try.func99, Try.ntmps99
  go_wp2
  clear k1
  go_loopw [10, 11] (fun vi vj wr => (∃ i' j' i j, i = m + i' ∧ j = m + j' ∧ i' ≤ j' ∧ j' ≤ v.length ∧ (∀ z, (v.take i')[(v.take i').length - 1]? = some z → Lo K z x) ∧ (∀ z, (v.drop j')[0]? = some z → Lo K x z) ∧ vi = .int .i64 (i : Int) ∧ vj = .int .i64 (j : Int)) ∧ Chg (fun _ => False) w wr) (fun vi vj _ => (intOf vj).toNat - (intOf vi).toNat)
  case atStart => exact ⟨h0, Chg.refl _ _⟩
  case round =>
    obtain ⟨⟨i', j', i, j, hi, hj, hij, hjv, hc1, hc2, rfl, rfl⟩, hC⟩ := hrel
    clear h0
    by_cases hlt : i' < j'
    · obtain ⟨⟨ha, hm, hb⟩, hlen, hn⟩ := HH.out
      have hd : decide (i < j) = true := decide_eq_true (by omega)
      obtain ⟨h, hh⟩ : ∃ h, (i + j) / 2 = h := ⟨_, rfl⟩
      obtain ⟨h', hh'⟩ : ∃ h', h = m + h' := ⟨h - m, by omega⟩
      have hhv : h' < v.length := by omega
      have hij2 : i' ≤ h' ∧ h' < j' := by omega
      have k1 : IntKind.i64.wrap ((i : Int) + (j : Int)) = (i : Int) + (j : Int) := IntWalk.i64_in _ (by omega)
      have k2 : ((i : Int) + (j : Int)) / 2 = (h : Int) := by omega
      have b1 : i ≤ 1000000 := by omega
      have b2 : j ≤ 1000000 := by omega
      have eA : p ++ (x :: (v ++ q)) = (p ++ x :: v.take h') ++ v[h'] :: (v.drop (h' + 1) ++ q) := by
        have e1 := List.drop_eq_getElem_cons hhv
        have e2 : v = v.take h' ++ v.drop h' := (List.take_append_drop _ _).symm
        rw [e1] at e2
        conv => lhs; rw [e2]
        simp only [List.append_assoc, List.cons_append]
      obtain ⟨c1, f1, g1⟩ := (HG.out.fr hC).cell eA (j := h) (by rw [List.length_append, List.length_cons, List.length_take]; omega)
      obtain ⟨c2, f2, g2⟩ := (HG.out.fr hC).cell (A := p) rfl ha
      have hahv := HV.out.2.1 v[h'] (List.getElem_mem _)
      have hcc := HCMP.out.2 v[h'] x (HV.out.2.2.2 _ (List.getElem_mem _)) HV.out.2.2.1 wr.drew (chg_mg hC.drew)
      have hcl := cmpN_lt (K v[h']) (K x)
      unfold GaveI at hcc
      generalize cmpN (K v[h']) (K x) = cv at hcc hcl
      have HL1 := Lib.hid (show Lo K v[h'] x → _ from fun g => last_take (P := fun z => Lo K z x) hhv g)
      have HL2 := Lib.hid (show Lo K x v[h'] → _ from fun g => head_drop (P := fun z => Lo K x z) hhv g)
      generalize v[h'] = y at *
      have i1 : (0 : Int) ≤ (h : Int) := by omega
      have i2 : (0 : Int) ≤ (a : Int) := by omega
      have i3 : (h : Int) < (n : Int) := by omega
      have i4 : (a : Int) < (n : Int) := by omega
      have k3 : IntKind.i64.wrap ((h : Int) + 1) = ((h + 1 : Nat) : Int) := by rw [IntWalk.i64_in _ (by omega)]; omega
      have KP := Lib.hid (show ∀ w', Chg (fun _ => False) wr w' → (Chg (fun _ => False) wr w' ∧ w'.cell? ⟨g, h, none⟩ = some (.int .i64 y) ∧ w'.cell? ⟨g, a, none⟩ = some (.int .i64 x)) from fun w' h => ⟨h, h.cell c1 id, h.cell c2 id⟩)
      have HC := Lib.hid hC
      have HJ := Lib.hid (And.intro (And.intro hi (And.intro hj hh')) (And.intro hij2 (And.intro hjv (And.intro hc1 hc2))))
      have HU := Lib.hid hahv
      clear eA g1 g2 ha hm hb hlen hn hi hj hij hjv hc1 hc2 hC hlt hh hh' hhv hij2 hahv
      by_cases hK : K y < K x
      · have hcl' : decide (cv < 0) = true := by rw [hcl]; exact decide_eq_true hK
        have HK := Lib.hid hK
        clear hK hcl
        go_wp2
        go_region_held3 (fun w' => Chg (fun _ => False) wr w' ∧ w'.cell? ⟨g, h, none⟩ = some (.int .i64 y) ∧ w'.cell? ⟨g, a, none⟩ = some (.int .i64 x)) ((refine KP.out _ ?_; repeat (first | (with_reducible exact Chg.refl _ _) | (with_reducible refine chg_drew' ?_) | (with_reducible refine Chg.tr ?_ hCP)))) (first | ((with_reducible refine hcc.mono ?_); rintro e9 wP ⟨rfl, hCP⟩))
        all_goals
          rename_i hHd
          have HF := Lib.hid (HC.out.tr hHd.1)
          clear hHd hCP
          go_wp2
          go_roundw
          case rel => exact ⟨⟨h' + 1, j', h + 1, j, by have := HJ.out; omega, HJ.out.1.2.1, HJ.out.2.1.2, HJ.out.2.2.1, HL1.out (lo_yes HK.out), HJ.out.2.2.2.2, rfl, rfl⟩, HF.out⟩
          case measure =>
            have h1 := HJ.out
            simp only [intOf]
            omega
      · have hcl' : decide (cv < 0) = false := by rw [hcl]; exact decide_eq_false hK
        have HK := Lib.hid hK
        clear hK hcl
        go_wp2
        go_region_held3 (fun w' => Chg (fun _ => False) wr w' ∧ w'.cell? ⟨g, h, none⟩ = some (.int .i64 y) ∧ w'.cell? ⟨g, a, none⟩ = some (.int .i64 x)) ((refine KP.out _ ?_; repeat (first | (with_reducible exact Chg.refl _ _) | (with_reducible refine chg_drew' ?_) | (with_reducible refine Chg.tr ?_ hCP)))) (first | ((with_reducible refine hcc.mono ?_); rintro e9 wP ⟨rfl, hCP⟩))
        all_goals
          rename_i hHd
          have HF := Lib.hid (HC.out.tr hHd.1)
          clear hHd hCP
          go_wp2
          go_roundw
          case rel => exact ⟨⟨i', h', i, h, HJ.out.1.1, HJ.out.1.2.2, HJ.out.2.1.1, by have := HJ.out; omega, HJ.out.2.2.2.1, HL2.out (lo_not HU.out (by have := HK.out; omega)), rfl, rfl⟩, HF.out⟩
          case measure =>
            have h1 := HJ.out
            simp only [intOf]
            omega
    · obtain rfl : i' = j' := by omega
      obtain rfl : i = j := by omega
      have hd : decide (i < i) = false := decide_eq_false (by omega)
      obtain ⟨⟨ha, hm, hb⟩, hlen, hn⟩ := HH.out
      have hG := HG.out.fr hC
      have h1 : ∃ t k, k = a + t ∧ t ≤ i' ∧ AtG wr base g n c (p ++ (v.take t ++ (x :: (v.drop t ++ q)))) ∧ Value.int .i64 (a : Int) = .int .i64 (k : Int) :=
        ⟨0, a, rfl, Nat.zero_le _, hG, rfl⟩
      have k2 : IntKind.i64.wrap ((i : Int) - 1) = ((a + i' : Nat) : Int) := by rw [IntWalk.i64_in _ (by omega)]; omega
      obtain ⟨ie, hie⟩ : ∃ ie, a + i' = ie := ⟨_, rfl⟩
      rw [hie] at k2
      have HC := Lib.hid hC
      have HJ := Lib.hid (And.intro hie (And.intro hjv (And.intro hc1 hc2)))
      clear hG ha hm hb hlen hn hi hj hij hjv hc1 hc2 hC hlt hie
      go_wp2
      obtain ⟨wo, rfl⟩ : ∃ wo : World, wo = wr := ⟨_, rfl⟩
      go_loopw [13] (fun vk wr => (∃ t k, k = a + t ∧ t ≤ i' ∧ AtG wr base g n c (p ++ (v.take t ++ (x :: (v.drop t ++ q)))) ∧ vk = .int .i64 (k : Int)) ∧ Chg (fun q => q = g) wo wr) (fun vk _ => ie - (intOf vk).toNat)
      case atStart => exact ⟨h1, Chg.refl _ _⟩
      case round =>
        obtain ⟨⟨t, k, hk, hti, hG, rfl⟩, hCw⟩ := hrel
        clear h1
        obtain ⟨⟨ha, hm, hb⟩, hlen, hn⟩ := HH.out
        by_cases hlt : t < i'
        · have hd : decide (k < ie) = true := decide_eq_true (by have := HJ.out; omega)
          have htv : t < v.length := by have := HJ.out; omega
          have e1 := List.drop_eq_getElem_cons htv
          have e2 := List.take_succ_eq_append_getElem htv
          have eA : p ++ (v.take t ++ (x :: (v.drop t ++ q))) = (p ++ v.take t) ++ x :: ([] ++ v[t] :: (v.drop (t + 1) ++ q)) := by rw [e1]; simp only [List.append_assoc, List.cons_append, List.nil_append]
          have eB : p ++ (v.take t ++ (x :: (v.drop t ++ q))) = (p ++ v.take t ++ [x]) ++ v[t] :: (v.drop (t + 1) ++ q) := by rw [e1]; simp only [List.append_assoc, List.cons_append, List.nil_append]
          have hl : (p ++ v.take t).length = k := by rw [List.length_append, List.length_take]; omega
          obtain ⟨c1, f1, g1⟩ := hG.cell eA hl.symm
          obtain ⟨c2, f2, g2⟩ := hG.cell eB (j := k + 1) (by rw [List.length_append, hl]; rfl)
          have hex := hG.exch eA hl.symm (j := k + 1) (by rw [hl]; rfl)
          rw [show (p ++ v.take t) ++ v[t] :: ([] ++ x :: (v.drop (t + 1) ++ q)) = p ++ (v.take (t + 1) ++ (x :: (v.drop (t + 1) ++ q))) by rw [e2]; simp only [List.append_assoc, List.cons_append, List.nil_append]] at hex
          have HEX := Lib.hid hex
          generalize v[t] = y at *
          have k3 : IntKind.i64.wrap ((k : Int) + 1) = ((k + 1 : Nat) : Int) := by rw [IntWalk.i64_in _ (by omega)]; omega
          have i1 : (0 : Int) ≤ (k : Int) := by omega
          have i2 : (0 : Int) ≤ ((k + 1 : Nat) : Int) := by omega
          have i3 : (k : Int) < (n : Int) := by omega
          have i4 : ((k + 1 : Nat) : Int) < (n : Int) := by omega
          have HCw := Lib.hid hCw
          have HT := Lib.hid (And.intro hk hlt)
          clear hG hex eA eB e1 e2 hl g1 g2 ha hm hb hlen hn hk hti hlt hCw htv
          go_wp2
          go_region
          all_goals
            go_wp2
            go_roundw
            case rel => exact ⟨⟨t + 1, k + 1, by have := HT.out; omega, by have := HT.out; omega, HEX.out.1.fr ((Chg.refl _ _).drew), rfl⟩, (chg_g HCw.out HEX.out.2.2.1).drew⟩
            case measure =>
              have h1 := HT.out
              have h2 := HJ.out.1
              simp only [intOf]
              omega
        · obtain rfl : t = i' := by omega
          have hd : decide (k < ie) = false := decide_eq_false (by have := HJ.out; omega)
          have HGf := Lib.hid (show GaveSrt w base g n c K p (x :: v) q (.returned (.tuple #[])) wr from ⟨v.take t ++ x :: v.drop t, by
            refine List.perm_middle.trans ?_
            rw [List.take_append_drop], srt_ins (by rw [List.take_append_drop]; exact HV.out.1) HJ.out.2.2.1 HJ.out.2.2.2, rfl, by simpa using hG, chg_g (chg_mg HC.out) hCw⟩)
          clear hG ha hm hb hlen hn hk hti hlt hCw
          go_wp2
          go_end0
          exact HGf.out
end Go.Proofs.Ytnjnajbdpaaikaa
