/- slices' stable sort: a symmetric merge. -/
import Derived.Test.YtnjnajbdpaaikaaPkX
import Derived.Deep.DeepCutAuto
namespace Go.Proofs.Ytnjnajbdpaaikaa
open Go.RowKit Go.Shelf

def SymOk (base g n c gf : Nat) (ob : Value) (K : Int → Int) (Dm : Int → Prop) (N : Nat) : Prop :=
  ∀ (p u v q : List Int) (a m b : Nat) (w : World), u.length + v.length ≤ N → 0 < u.length → 0 < v.length → AtG w base g n c (p ++ (u ++ (v ++ q))) → a = p.length → m = p.length + u.length → b = p.length + u.length + v.length → Srt K u → Srt K v → Ahead u v → (∀ z ∈ u, Dm z) → (∀ z ∈ v, Dm z) → CmpAt w g gf ob K Dm →
    Calls Try.prog 99 #[.slice (some ⟨g, 0, none⟩) n c, .int .i64 a, .int .i64 m, .int .i64 b, .func (.func gf) #[ob] #[]] w (GaveSrt w base g n c K p (u ++ v) q)
theorem srt_take {K : Int → Int} {l : List Int} (h : Srt K l) (k : Nat) : Srt K (l.take k) ∧ Srt K (l.drop k) := by
  rw [← List.take_append_drop k l] at h
  exact ⟨(srt_app.1 h).1, (srt_app.1 h).2.1⟩
theorem ahead_sub {u v u' v' : List Int} (h : Ahead u v) (h1 : ∀ x ∈ u', x ∈ u) (h2 : ∀ x ∈ v', x ∈ v) : Ahead u' v' := fun x hx y hy => h x (h1 x hx) y (h2 y hy)
set_option maxRecDepth 100000 in
set_option maxHeartbeats 2000000 in
theorem sym_gen (base g n c : Nat) (p u v q : List Int) (a m b N : Nat) (gf : Nat) (ob : Value) (K : Int → Int) (Dm : Int → Prop) (w : World) (ih : SymOk base g n c gf ob K Dm N) (hN : u.length + v.length ≤ N + 1) (hu2 : 2 ≤ u.length) (hv2 : 2 ≤ v.length) (h : AtG w base g n c (p ++ (u ++ (v ++ q)))) (ha : a = p.length) (hm : m = p.length + u.length) (hb : b = p.length + u.length + v.length)
    (hu : Srt K u) (hv : Srt K v) (hah : Ahead u v) (hDu : ∀ z ∈ u, Dm z) (hDv : ∀ z ∈ v, Dm z) (hcmp : CmpAt w g gf ob K Dm) (hn : n ≤ 1000000) :
    Calls Try.prog 99 #[.slice (some ⟨g, 0, none⟩) n c, .int .i64 a, .int .i64 m, .int .i64 b, .func (.func gf) #[ob] #[]] w (GaveSrt w base g n c K p (u ++ v) q) := by
  have hlen := h.len
  simp only [List.length_append] at hlen
  obtain ⟨ul, hul⟩ : ∃ ul, u.length = ul := ⟨_, rfl⟩
  obtain ⟨vl, hvl⟩ : ∃ vl, v.length = vl := ⟨_, rfl⟩
  obtain ⟨M, hM⟩ : ∃ M, (ul + vl) / 2 = M := ⟨_, rfl⟩
  obtain ⟨mid, hmid⟩ : ∃ mid, a + M = mid := ⟨_, rfl⟩
  obtain ⟨nn, hnn⟩ : ∃ nn, mid + m = nn := ⟨_, rfl⟩
  obtain ⟨pp, hpp⟩ : ∃ pp, nn - 1 = pp := ⟨_, rfl⟩
  have k1 : IntKind.i64.wrap ((m : Int) - (a : Int)) = (ul : Int) := by rw [IntWalk.i64_in _ (by omega)]; omega
  have k2 : IntKind.i64.wrap ((b : Int) - (m : Int)) = (vl : Int) := by rw [IntWalk.i64_in _ (by omega)]; omega
  have k3 : ((ul : Int) == 1) = false := by rw [beq_eq_false_iff_ne]; omega
  have k4 : ((vl : Int) == 1) = false := by rw [beq_eq_false_iff_ne]; omega
  have k5 : IntKind.i64.wrap ((a : Int) + (b : Int)) = (a : Int) + (b : Int) := IntWalk.i64_in _ (by omega)
  have k6 : ((a : Int) + (b : Int)) / 2 = (mid : Int) := by omega
  have k7 : IntKind.i64.wrap ((mid : Int) + (m : Int)) = (nn : Int) := by rw [IntWalk.i64_in _ (by omega)]; omega
  have k8 : IntKind.i64.wrap ((nn : Int) - 1) = (pp : Int) := by rw [IntWalk.i64_in _ (by omega)]; omega
  have b1 : a ≤ 1000000 := by omega
  have b2 : b ≤ 1000000 := by omega
  have HH := Lib.hid (And.intro (And.intro ha (And.intro hm hb)) (And.intro hlen hn))
  have HL := Lib.hid (And.intro (And.intro hul hvl) (And.intro (And.intro hM hmid) (And.intro hnn hpp)))
  have HS := Lib.hid (And.intro hu (And.intro hv (And.intro hah (And.intro hDu hDv))))
  have H2 := Lib.hid (And.intro hN (And.intro hu2 hv2))
  have HCMP := Lib.hid hcmp
  have eg := hcmp.1
  have HG := Lib.hid h
  have IH := Lib.hid ih
  clear h ha hm hb hlen hn hu hv hah hDu hDv hcmp hN hu2 hv2 hul hvl hM hmid hnn hpp ih
  go_enter Try.func99, Try.ntmps99
  go_upto_if 140 with (fail)
  clear k1 k2 k3 k4 k5 k6 k7 b1 b2
  go_cut [20, 21] (fun s20 s21 wx => (∃ s r S R, S = a + s ∧ R = a + r ∧ s ≤ r ∧ r ≤ ul ∧ r ≤ M ∧ M ≤ s + vl ∧ (∀ x y, (u.take s)[(u.take s).length - 1]? = some x → (v.drop (M - s))[0]? = some y → Lo K x y) ∧ (∀ x y, (v.take (M - r))[(v.take (M - r)).length - 1]? = some x → (u.drop r)[0]? = some y → Lo K x y) ∧ s20 = .int .i64 (S : Nat) ∧ s21 = .int .i64 (R : Nat)) ∧ wx = w)
  case first =>
    obtain ⟨⟨ha, hm, hb⟩, hlen, hn⟩ := HH.out
    obtain ⟨⟨hul, hvl⟩, ⟨hM, hmid⟩, hnn, hpp⟩ := HL.out
    obtain ⟨hN, hu2, hv2⟩ := H2.out
    by_cases hmm : mid < m
    · have d1 : decide (mid < m) = true := decide_eq_true hmm
      obtain ⟨S0, hS0⟩ : ∃ S0, nn - b = S0 := ⟨_, rfl⟩
      have k9 : IntKind.i64.wrap ((nn : Int) - (b : Int)) = (S0 : Int) := by rw [IntWalk.i64_in _ (by omega)]; omega
      have HR := Lib.hid (show ∃ s r S R, S = a + s ∧ R = a + r ∧ s ≤ r ∧ r ≤ ul ∧ r ≤ M ∧ M ≤ s + vl ∧ (∀ x y, (u.take s)[(u.take s).length - 1]? = some x → (v.drop (M - s))[0]? = some y → Lo K x y) ∧ (∀ x y, (v.take (M - r))[(v.take (M - r)).length - 1]? = some x → (u.drop r)[0]? = some y → Lo K x y) ∧ Value.int .i64 (S0 : Int) = .int .i64 (S : Nat) ∧ Value.int .i64 (mid : Int) = .int .i64 (R : Nat) from
        ⟨M - vl, M, S0, mid, by omega, by omega, by omega, by omega, Nat.le_refl _, by omega, fun x y _ h2 => by
          rw [List.drop_eq_nil_of_le (by omega)] at h2; simp at h2, fun x y h1 _ => by rw [Nat.sub_self] at h1; simp at h1, rfl, rfl⟩)
      clear ha hm hb hlen hn hul hvl hM hmid hnn hpp hN hu2 hv2 hmm hS0
      rw [d1]
      go_wp2_with fail
      go_meet
      exact ⟨HR.out, rfl⟩
    · have d1 : decide (mid < m) = false := decide_eq_false hmm
      have HR := Lib.hid (show ∃ s r S R, S = a + s ∧ R = a + r ∧ s ≤ r ∧ r ≤ ul ∧ r ≤ M ∧ M ≤ s + vl ∧ (∀ x y, (u.take s)[(u.take s).length - 1]? = some x → (v.drop (M - s))[0]? = some y → Lo K x y) ∧ (∀ x y, (v.take (M - r))[(v.take (M - r)).length - 1]? = some x → (u.drop r)[0]? = some y → Lo K x y) ∧ Value.int .i64 (a : Int) = .int .i64 (S : Nat) ∧ Value.int .i64 (m : Int) = .int .i64 (R : Nat) from
        ⟨0, ul, a, m, by omega, by omega, by omega, by omega, by omega, by omega, fun x y h1 _ => by
          rw [List.take_zero] at h1; simp at h1, fun x y _ h2 => by rw [List.drop_eq_nil_of_le (by omega)] at h2; simp at h2, rfl, rfl⟩)
      clear ha hm hb hlen hn hul hvl hM hmid hnn hpp hN hu2 hv2 hmm
      rw [d1]
      go_wp2_with fail
      go_meet
      exact ⟨HR.out, rfl⟩
  case rest =>
    obtain ⟨h0, rfl⟩ := hcut
    obtain ⟨s0, r0, S0, R0, e1, e2, e3, e4, e5, e6, e7, e8, rfl, rfl⟩ := h0
    have h0 : ∃ s r S R, S = a + s ∧ R = a + r ∧ s ≤ r ∧ r ≤ ul ∧ r ≤ M ∧ M ≤ s + vl ∧ (∀ x y, (u.take s)[(u.take s).length - 1]? = some x → (v.drop (M - s))[0]? = some y → Lo K x y) ∧ (∀ x y, (v.take (M - r))[(v.take (M - r)).length - 1]? = some x → (u.drop r)[0]? = some y → Lo K x y) ∧ Value.int .i64 (S0 : Int) = .int .i64 (S : Nat) ∧ Value.int .i64 (R0 : Int) = .int .i64 (R : Nat) := ⟨s0, r0, S0, R0, e1, e2, e3, e4, e5, e6, e7, e8, rfl, rfl⟩
    have H0 := Lib.hid h0
    clear e1 e2 e3 e4 e5 e6 e7 e8 h0
    go_wp2
    go_loopw [20, 21] (fun s20 s21 wr => (∃ s r S R, S = a + s ∧ R = a + r ∧ s ≤ r ∧ r ≤ ul ∧ r ≤ M ∧ M ≤ s + vl ∧ (∀ x y, (u.take s)[(u.take s).length - 1]? = some x → (v.drop (M - s))[0]? = some y → Lo K x y) ∧ (∀ x y, (v.take (M - r))[(v.take (M - r)).length - 1]? = some x → (u.drop r)[0]? = some y → Lo K x y) ∧ s20 = .int .i64 (S : Nat) ∧ s21 = .int .i64 (R : Nat)) ∧ Chg (fun _ => False) wc wr) (fun vi vj _ => (intOf vj).toNat - (intOf vi).toNat)
    case atStart => exact ⟨H0.out, Chg.refl _ _⟩
    case round =>
      clear k8
      obtain ⟨⟨s, r, S, R, hS, hR, hsr, hru, hrM, hMs, hd1, hd2, rfl, rfl⟩, hC⟩ := hrel
      by_cases hlt : s < r
      · obtain ⟨⟨ha, hm, hb⟩, hlen, hn⟩ := HH.out
        obtain ⟨⟨hul, hvl⟩, ⟨hM, hmid⟩, hnn, hpp⟩ := HL.out
        have hd : decide (S < R) = true := decide_eq_true (by omega)
        obtain ⟨C, hC0⟩ : ∃ C, (S + R) / 2 = C := ⟨_, rfl⟩
        obtain ⟨cc, hcc0⟩ : ∃ cc, C = a + cc := ⟨C - a, by omega⟩
        obtain ⟨d, hd0⟩ : ∃ d, m + (M - cc - 1) = d := ⟨_, rfl⟩
        have hcu : cc < u.length := by omega
        have hcv : M - cc - 1 < v.length := by omega
        have hscr : s ≤ cc ∧ cc < r := by omega
        have k1 : IntKind.i64.wrap ((S : Int) + (R : Int)) = (S : Int) + (R : Int) := IntWalk.i64_in _ (by omega)
        have k2 : ((S : Int) + (R : Int)) / 2 = (C : Int) := by omega
        have b1 : S ≤ 1000000 := by omega
        have b2 : R ≤ 1000000 := by omega
        have k3 : IntKind.i64.wrap ((pp : Int) - (C : Int)) = (d : Int) := by rw [IntWalk.i64_in _ (by omega)]; omega
        have k4 : IntKind.i64.wrap ((C : Int) + 1) = ((C + 1 : Nat) : Int) := by rw [IntWalk.i64_in _ (by omega)]; omega
        have eA : p ++ (u ++ (v ++ q)) = (p ++ u.take cc) ++ u[cc] :: (u.drop (cc + 1) ++ (v ++ q)) := by
          have e1 := List.drop_eq_getElem_cons hcu
          have e2 : u = u.take cc ++ u.drop cc := (List.take_append_drop _ _).symm
          rw [e1] at e2
          conv => lhs; rw [e2]
          simp only [List.append_assoc, List.cons_append]
        have eB : p ++ (u ++ (v ++ q)) = (p ++ u ++ v.take (M - cc - 1)) ++ v[M - cc - 1] :: (v.drop (M - cc - 1 + 1) ++ q) := by
          have e1 := List.drop_eq_getElem_cons hcv
          have e2 : v = v.take (M - cc - 1) ++ v.drop (M - cc - 1) := (List.take_append_drop _ _).symm
          rw [e1] at e2
          conv => lhs; rw [e2]
          simp only [List.append_assoc, List.cons_append]
        obtain ⟨c1, f1, g1⟩ := (HG.out.fr hC).cell eA (j := C) (by rw [List.length_append, List.length_take]; omega)
        obtain ⟨c2, f2, g2⟩ := (HG.out.fr hC).cell eB (j := d) (by rw [List.length_append, List.length_append, List.length_take]; omega)
        have hahv := HS.out.2.2.1 u[cc] (List.getElem_mem _) v[M - cc - 1] (List.getElem_mem _)
        have hcc := HCMP.out.2 v[M - cc - 1] u[cc] (HS.out.2.2.2.2 _ (List.getElem_mem _)) (HS.out.2.2.2.1 _ (List.getElem_mem _)) wr.drew (chg_mg hC.drew)
        have hcl := cmpN_lt (K v[M - cc - 1]) (K u[cc])
        unfold GaveI at hcc
        generalize cmpN (K v[M - cc - 1]) (K u[cc]) = cv at hcc hcl
        have HD1 := Lib.hid (show Lo K u[cc] v[M - cc - 1] → ∀ x y, (u.take (cc + 1))[(u.take (cc + 1)).length - 1]? = some x → (v.drop (M - (cc + 1)))[0]? = some y → Lo K x y from fun g x y h1 h2 =>
          last_take (P := fun x => Lo K x y) hcu (head_drop (P := fun y => Lo K u[cc] y) hcv g y (by rw [Nat.sub_sub]; exact h2)) x h1)
        have HD2 := Lib.hid (show Lo K v[M - cc - 1] u[cc] → ∀ x y, (v.take (M - cc))[(v.take (M - cc)).length - 1]? = some x → (u.drop cc)[0]? = some y → Lo K x y from fun g x y h1 h2 =>
          last_take (P := fun x => Lo K x y) hcv (head_drop (P := fun y => Lo K v[M - cc - 1] y) hcu g y h2) x (by rw [show M - cc - 1 + 1 = M - cc by omega]; exact h1))
        generalize u[cc] = x at *
        generalize v[M - cc - 1] = y at *
        have i1 : (0 : Int) ≤ (C : Int) := by omega
        have i2 : (0 : Int) ≤ (d : Int) := by omega
        have i3 : (C : Int) < (n : Int) := by omega
        have i4 : (d : Int) < (n : Int) := by omega
        have KP := Lib.hid (show ∀ w', Chg (fun _ => False) wr w' → (Chg (fun _ => False) wr w' ∧ w'.cell? ⟨g, C, none⟩ = some (.int .i64 x) ∧ w'.cell? ⟨g, d, none⟩ = some (.int .i64 y)) from fun w' h => ⟨h, h.cell c1 id, h.cell c2 id⟩)
        have HC := Lib.hid hC
        have HJ := Lib.hid (And.intro (And.intro hS (And.intro hR hcc0)) (And.intro hscr (And.intro (And.intro hru (And.intro hrM hMs)) (And.intro hd1 hd2))))
        have HU := Lib.hid hahv
        clear eA eB g1 g2 ha hm hb hlen hn hul hvl hM hmid hnn hpp hS hR hsr hru hrM hMs hd1 hd2 hC hlt hC0 hcc0 hd0 hcu hcv hscr hahv
        by_cases hK : K y < K x
        · have hcl' : decide (cv < 0) = true := by rw [hcl]; exact decide_eq_true hK
          have HK := Lib.hid hK
          clear hK hcl
          go_wp2
          go_region_held3 (fun w' => Chg (fun _ => False) wr w' ∧ w'.cell? ⟨g, C, none⟩ = some (.int .i64 x) ∧ w'.cell? ⟨g, d, none⟩ = some (.int .i64 y)) ((refine KP.out _ ?_; repeat (first | (with_reducible exact Chg.refl _ _) | (with_reducible refine chg_drew' ?_) | (with_reducible refine Chg.tr ?_ hCP)))) (first | ((with_reducible refine hcc.mono ?_); rintro e9 wP ⟨rfl, hCP⟩))
          all_goals
            rename_i hHd
            have HF := Lib.hid (HC.out.tr hHd.1)
            clear hHd hCP
            go_wp2
            go_roundw
            case rel => exact ⟨⟨s, cc, S, C, HJ.out.1.1, HJ.out.1.2.2, HJ.out.2.1.1, by have := HJ.out; omega, by have := HJ.out; omega, HJ.out.2.2.1.2.2, HJ.out.2.2.2.1, HD2.out (lo_yes HK.out), rfl, rfl⟩, HF.out⟩
            case measure =>
              have h1 := HJ.out
              simp only [intOf]
              omega
        · have hcl' : decide (cv < 0) = false := by rw [hcl]; exact decide_eq_false hK
          have HK := Lib.hid hK
          clear hK hcl
          go_wp2
          go_region_held3 (fun w' => Chg (fun _ => False) wr w' ∧ w'.cell? ⟨g, C, none⟩ = some (.int .i64 x) ∧ w'.cell? ⟨g, d, none⟩ = some (.int .i64 y)) ((refine KP.out _ ?_; repeat (first | (with_reducible exact Chg.refl _ _) | (with_reducible refine chg_drew' ?_) | (with_reducible refine Chg.tr ?_ hCP)))) (first | ((with_reducible refine hcc.mono ?_); rintro e9 wP ⟨rfl, hCP⟩))
          all_goals
            rename_i hHd
            have HF := Lib.hid (HC.out.tr hHd.1)
            clear hHd hCP
            go_wp2
            go_roundw
            case rel => exact ⟨⟨cc + 1, r, C + 1, R, by have := HJ.out; omega, HJ.out.1.2.1, HJ.out.2.1.2, HJ.out.2.2.1.1, HJ.out.2.2.1.2.1, by have := HJ.out; omega, HD1.out (lo_not HU.out (by have := HK.out; omega)), HJ.out.2.2.2.2, rfl, rfl⟩, HF.out⟩
            case measure =>
              have h1 := HJ.out
              simp only [intOf]
              omega
      · obtain rfl : s = r := by omega
        obtain rfl : S = R := by omega
        have hd : decide (S < S) = false := decide_eq_false (by omega)
        obtain ⟨⟨ha, hm, hb⟩, hlen, hn⟩ := HH.out
        obtain ⟨⟨hul, hvl⟩, ⟨hM, hmid⟩, hnn, hpp⟩ := HL.out
        obtain ⟨E, hE⟩ : ∃ E, m + (M - s) = E := ⟨_, rfl⟩
        have k1 : IntKind.i64.wrap ((nn : Int) - (S : Int)) = (E : Int) := by rw [IntWalk.i64_in _ (by omega)]; omega
        have hG : AtG wr base g n c (p ++ (u.take s ++ (u.drop s ++ (v.take (M - s) ++ (v.drop (M - s) ++ q))))) := by
          rw [← List.append_assoc (u.take s), List.take_append_drop, ← List.append_assoc (v.take _), List.take_append_drop]
          exact HG.out.fr hC
        have HX := Lib.hid (sym_parts (u1 := u.take s) (u2 := u.drop s) (v1 := v.take (M - s)) (v2 := v.drop (M - s)) (by rw [List.take_append_drop]; exact HS.out.1) (by rw [List.take_append_drop]; exact HS.out.2.1) hd1 hd2)
        have l1 : (u.take s).length = s := by rw [List.length_take]; omega
        have l2 : (u.drop s).length = ul - s := by rw [List.length_drop]; omega
        have l3 : (v.take (M - s)).length = M - s := by rw [List.length_take]; omega
        have l4 : (v.drop (M - s)).length = vl - (M - s) := by rw [List.length_drop]; omega
        have HLL := Lib.hid (And.intro (And.intro l1 l2) (And.intro l3 l4))
        have HSU := Lib.hid (srt_take HS.out.1 s)
        have HSV := Lib.hid (srt_take HS.out.2.1 (M - s))
        have HMU := Lib.hid (show (∀ z ∈ u.take s, z ∈ u) ∧ (∀ z ∈ u.drop s, z ∈ u) ∧ (∀ z ∈ v.take (M - s), z ∈ v) ∧ (∀ z ∈ v.drop (M - s), z ∈ v) from ⟨fun z h => List.mem_of_mem_take h, fun z h => List.mem_of_mem_drop h, fun z h => List.mem_of_mem_take h, fun z h => List.mem_of_mem_drop h⟩)
        have HPE := Lib.hid (show ∀ Z1 Z2 : List Int, Z1.Perm (u.take s ++ v.take (M - s)) → Z2.Perm (u.drop s ++ v.drop (M - s)) → (Z1 ++ Z2).Perm (u ++ v) from fun Z1 Z2 h1 h2 => by
          refine (h1.append h2).trans ?_
          conv => rhs; rw [← List.take_append_drop s u, ← List.take_append_drop (M - s) v]
          rw [List.append_assoc, List.append_assoc]
          refine List.Perm.append_left _ ?_
          rw [← List.append_assoc, ← List.append_assoc]
          exact List.Perm.append_right _ List.perm_append_comm)
        have HJ := Lib.hid (And.intro hS (And.intro hE (And.intro hru (And.intro hrM hMs))))
        generalize u.take s = u1 at *
        generalize u.drop s = u2 at *
        generalize v.take (M - s) = v1 at *
        generalize v.drop (M - s) = v2 at *
        have HC := Lib.hid hC
        have HG1 := Lib.hid hG
        clear ha hm hb hlen hn hul hvl hM hmid hnn hpp hS hR hsr hru hrM hMs hd1 hd2 hC hlt hE hG l1 l2 l3 l4
        by_cases hA : s < ul
        · by_cases hB : s < M
          · by_cases hC : 0 < s
            · by_cases hD : M - s < vl
              · have HA := Lib.hid (And.intro (And.intro hA hB) (And.intro hC hD))
                have dA : decide (S < m) = true := by
                  have := HH.out; have := HL.out; have := HJ.out; have := H2.out
                  first | exact decide_eq_true (by omega) | exact decide_eq_false (by omega)
                have dB : decide (m < E) = true := by
                  have := HH.out; have := HL.out; have := HJ.out; have := H2.out
                  first | exact decide_eq_true (by omega) | exact decide_eq_false (by omega)
                have dC : decide (a < S) = true := by
                  have := HH.out; have := HL.out; have := HJ.out; have := H2.out
                  first | exact decide_eq_true (by omega) | exact decide_eq_false (by omega)
                have dE : decide (S < mid) = true := by
                  have := HH.out; have := HL.out; have := HJ.out; have := H2.out
                  first | exact decide_eq_true (by omega) | exact decide_eq_false (by omega)
                have dF : decide (mid < E) = true := by
                  have := HH.out; have := HL.out; have := HJ.out; have := H2.out
                  first | exact decide_eq_true (by omega) | exact decide_eq_false (by omega)
                have dG : decide (E < b) = true := by
                  have := HH.out; have := HL.out; have := HJ.out; have := H2.out
                  first | exact decide_eq_true (by omega) | exact decide_eq_false (by omega)
                clear hA hB hC hD
                have hrot := rotate_any base g n c (p ++ u1) u2 v1 (v2 ++ q) S m E (.func (.func gf) #[ob] #[]) wr (by rw [List.append_assoc]; exact HG1.out)
                  (by rw [List.length_append]; have := HH.out; have := HL.out; have := HJ.out; have := HLL.out; omega) (by rw [List.length_append]; have := HH.out; have := HL.out; have := HJ.out; have := HLL.out; omega)
                  (by rw [List.length_append]; have := HH.out; have := HL.out; have := HJ.out; have := HLL.out; omega) (by have := HA.out; have := HLL.out; omega) (by have := HA.out; have := HLL.out; omega) HH.out.2.2
                go_wp2_with fail
                refine hrot.mono ?_
                clear hrot
                rintro e9 w2 ⟨rfl, hG2, hC2⟩
                rw [List.append_assoc] at hG2
                have HG2 := Lib.hid hG2
                have HC2 := Lib.hid (chg_g (chg_mg HC.out) hC2)
                clear hG2 hC2
                have hs1 := IH.out p u1 v1 (u2 ++ (v2 ++ q)) a S mid w2 (by have := H2.out; have := HL.out; have := HJ.out; have := HLL.out; omega) (by have := HA.out; have := HLL.out; omega) (by have := HA.out; have := HLL.out; omega) HG2.out HH.out.1.1
                  (by have := HH.out; have := HJ.out; have := HLL.out; omega) (by have := HH.out; have := HL.out; have := HJ.out; have := HLL.out; omega) HSU.out.1 HSV.out.1 (ahead_sub HS.out.2.2.1 HMU.out.1 HMU.out.2.2.1) (fun z h => HS.out.2.2.2.1 z (HMU.out.1 z h)) (fun z h => HS.out.2.2.2.2 z (HMU.out.2.2.1 z h)) (HCMP.out.of HC2.out)
                go_wp2_with fail
                refine hs1.mono ?_
                clear hs1
                rintro e9 w3 ⟨Z1, hp1, hz1, rfl, hG3, hC3⟩
                have HP1 := Lib.hid (And.intro hp1 hz1)
                have HG3 := Lib.hid hG3
                have HC3 := Lib.hid (chg_g HC2.out hC3)
                clear hp1 hz1 hG3 hC3
                have hs2 := IH.out (p ++ Z1) u2 v2 q mid E b w3 (by have := H2.out; have := HL.out; have := HJ.out; have := HLL.out; omega) (by have := HA.out; have := HLL.out; omega) (by have := HA.out; have := HLL.out; omega) (by rw [List.append_assoc]; exact HG3.out)
                  (by rw [List.length_append, HP1.out.1.length_eq, List.length_append]; have := HH.out; have := HL.out; have := HJ.out; have := HLL.out; omega) (by rw [List.length_append, HP1.out.1.length_eq, List.length_append]; have := HH.out; have := HL.out; have := HJ.out; have := HLL.out; omega)
                  (by rw [List.length_append, HP1.out.1.length_eq, List.length_append]; have := HH.out; have := HL.out; have := HJ.out; have := HLL.out; omega) HSU.out.2 HSV.out.2 (ahead_sub HS.out.2.2.1 HMU.out.2.1 HMU.out.2.2.2) (fun z h => HS.out.2.2.2.1 z (HMU.out.2.1 z h)) (fun z h => HS.out.2.2.2.2 z (HMU.out.2.2.2 z h)) (HCMP.out.of HC3.out)
                go_wp2_with fail
                refine hs2.mono ?_
                clear hs2
                rintro e9 w4 ⟨Z2, hp2, hz2, rfl, hG4, hC4⟩
                have HF := Lib.hid (show GaveSrt wc base g n c K p (u ++ v) q (.returned (.tuple #[])) w4 from ⟨Z1 ++ Z2, HPE.out _ _ HP1.out.1 hp2, srt_app.2 ⟨HP1.out.2, hz2, fun x hx y hy => HX.out x (HP1.out.1.mem_iff.1 hx) y (hp2.mem_iff.1 hy)⟩, rfl, by simpa using hG4, chg_g HC3.out hC4⟩)
                clear hp2 hz2 hG4 hC4
                go_wp2
                go_end0
                exact HF.out
              · have HA := Lib.hid (And.intro (And.intro hA hB) (And.intro hC hD))
                have dA : decide (S < m) = true := by
                  have := HH.out; have := HL.out; have := HJ.out; have := H2.out
                  first | exact decide_eq_true (by omega) | exact decide_eq_false (by omega)
                have dB : decide (m < E) = true := by
                  have := HH.out; have := HL.out; have := HJ.out; have := H2.out
                  first | exact decide_eq_true (by omega) | exact decide_eq_false (by omega)
                have dC : decide (a < S) = true := by
                  have := HH.out; have := HL.out; have := HJ.out; have := H2.out
                  first | exact decide_eq_true (by omega) | exact decide_eq_false (by omega)
                have dE : decide (S < mid) = true := by
                  have := HH.out; have := HL.out; have := HJ.out; have := H2.out
                  first | exact decide_eq_true (by omega) | exact decide_eq_false (by omega)
                have dF : decide (mid < E) = true := by
                  have := HH.out; have := HL.out; have := HJ.out; have := H2.out
                  first | exact decide_eq_true (by omega) | exact decide_eq_false (by omega)
                have dG : decide (E < b) = false := by
                  have := HH.out; have := HL.out; have := HJ.out; have := H2.out
                  first | exact decide_eq_true (by omega) | exact decide_eq_false (by omega)
                clear hA hB hC hD
                have hrot := rotate_any base g n c (p ++ u1) u2 v1 (v2 ++ q) S m E (.func (.func gf) #[ob] #[]) wr (by rw [List.append_assoc]; exact HG1.out)
                  (by rw [List.length_append]; have := HH.out; have := HL.out; have := HJ.out; have := HLL.out; omega) (by rw [List.length_append]; have := HH.out; have := HL.out; have := HJ.out; have := HLL.out; omega)
                  (by rw [List.length_append]; have := HH.out; have := HL.out; have := HJ.out; have := HLL.out; omega) (by have := HA.out; have := HLL.out; omega) (by have := HA.out; have := HLL.out; omega) HH.out.2.2
                go_wp2_with fail
                refine hrot.mono ?_
                clear hrot
                rintro e9 w2 ⟨rfl, hG2, hC2⟩
                rw [List.append_assoc] at hG2
                have HG2 := Lib.hid hG2
                have HC2 := Lib.hid (chg_g (chg_mg HC.out) hC2)
                clear hG2 hC2
                have hs1 := IH.out p u1 v1 (u2 ++ (v2 ++ q)) a S mid w2 (by have := H2.out; have := HL.out; have := HJ.out; have := HLL.out; omega) (by have := HA.out; have := HLL.out; omega) (by have := HA.out; have := HLL.out; omega) HG2.out HH.out.1.1
                  (by have := HH.out; have := HJ.out; have := HLL.out; omega) (by have := HH.out; have := HL.out; have := HJ.out; have := HLL.out; omega) HSU.out.1 HSV.out.1 (ahead_sub HS.out.2.2.1 HMU.out.1 HMU.out.2.2.1) (fun z h => HS.out.2.2.2.1 z (HMU.out.1 z h)) (fun z h => HS.out.2.2.2.2 z (HMU.out.2.2.1 z h)) (HCMP.out.of HC2.out)
                go_wp2_with fail
                refine hs1.mono ?_
                clear hs1
                rintro e9 w3 ⟨Z1, hp1, hz1, rfl, hG3, hC3⟩
                have HP1 := Lib.hid (And.intro hp1 hz1)
                have HG3 := Lib.hid hG3
                have HC3 := Lib.hid (chg_g HC2.out hC3)
                clear hp1 hz1 hG3 hC3
                have HF := Lib.hid (show GaveSrt wc base g n c K p (u ++ v) q (.returned (.tuple #[])) w3 from ⟨Z1 ++ (u2 ++ v2), HPE.out _ _ HP1.out.1 (List.Perm.refl _), srt_app.2 ⟨HP1.out.2, by (rw [show v2 = [] from List.eq_nil_of_length_eq_zero (by have := HA.out; have := HLL.out; omega), List.append_nil]; exact HSU.out.2), fun x hx y hy => HX.out x (HP1.out.1.mem_iff.1 hx) y hy⟩, rfl, by simpa using HG3.out, HC3.out⟩)
                go_wp2
                go_end0
                exact HF.out
            · by_cases hD : M - s < vl
              · have HA := Lib.hid (And.intro (And.intro hA hB) (And.intro hC hD))
                have dA : decide (S < m) = true := by
                  have := HH.out; have := HL.out; have := HJ.out; have := H2.out
                  first | exact decide_eq_true (by omega) | exact decide_eq_false (by omega)
                have dB : decide (m < E) = true := by
                  have := HH.out; have := HL.out; have := HJ.out; have := H2.out
                  first | exact decide_eq_true (by omega) | exact decide_eq_false (by omega)
                have dC : decide (a < S) = false := by
                  have := HH.out; have := HL.out; have := HJ.out; have := H2.out
                  first | exact decide_eq_true (by omega) | exact decide_eq_false (by omega)
                have dE : decide (S < mid) = true := by
                  have := HH.out; have := HL.out; have := HJ.out; have := H2.out
                  first | exact decide_eq_true (by omega) | exact decide_eq_false (by omega)
                have dF : decide (mid < E) = true := by
                  have := HH.out; have := HL.out; have := HJ.out; have := H2.out
                  first | exact decide_eq_true (by omega) | exact decide_eq_false (by omega)
                have dG : decide (E < b) = true := by
                  have := HH.out; have := HL.out; have := HJ.out; have := H2.out
                  first | exact decide_eq_true (by omega) | exact decide_eq_false (by omega)
                clear hA hB hC hD
                have hrot := rotate_any base g n c (p ++ u1) u2 v1 (v2 ++ q) S m E (.func (.func gf) #[ob] #[]) wr (by rw [List.append_assoc]; exact HG1.out)
                  (by rw [List.length_append]; have := HH.out; have := HL.out; have := HJ.out; have := HLL.out; omega) (by rw [List.length_append]; have := HH.out; have := HL.out; have := HJ.out; have := HLL.out; omega)
                  (by rw [List.length_append]; have := HH.out; have := HL.out; have := HJ.out; have := HLL.out; omega) (by have := HA.out; have := HLL.out; omega) (by have := HA.out; have := HLL.out; omega) HH.out.2.2
                go_wp2_with fail
                refine hrot.mono ?_
                clear hrot
                rintro e9 w2 ⟨rfl, hG2, hC2⟩
                rw [List.append_assoc] at hG2
                have HG2 := Lib.hid hG2
                have HC2 := Lib.hid (chg_g (chg_mg HC.out) hC2)
                clear hG2 hC2
                obtain ⟨w3, hw3⟩ : ∃ w3, w2 = w3 := ⟨_, rfl⟩
                obtain ⟨Z1, hZ1⟩ : ∃ Z1, u1 ++ v1 = Z1 := ⟨_, rfl⟩
                have HP1 := Lib.hid (show Z1.Perm (u1 ++ v1) ∧ Srt K Z1 from ⟨by rw [hZ1], by rw [← hZ1]; (rw [show u1 = [] from List.eq_nil_of_length_eq_zero (by have := HA.out; have := HLL.out; omega), List.nil_append]; exact HSV.out.1)⟩)
                have HG3 := Lib.hid (show AtG w2 base g n c (p ++ (Z1 ++ (u2 ++ (v2 ++ q)))) from by rw [← hZ1, List.append_assoc]; exact HG2.out)
                have HC3 := Lib.hid HC2.out
                rw [hw3] at HG3 HC3 ⊢
                clear hw3 hZ1
                have hs2 := IH.out (p ++ Z1) u2 v2 q mid E b w3 (by have := H2.out; have := HL.out; have := HJ.out; have := HLL.out; omega) (by have := HA.out; have := HLL.out; omega) (by have := HA.out; have := HLL.out; omega) (by rw [List.append_assoc]; exact HG3.out)
                  (by rw [List.length_append, HP1.out.1.length_eq, List.length_append]; have := HH.out; have := HL.out; have := HJ.out; have := HLL.out; omega) (by rw [List.length_append, HP1.out.1.length_eq, List.length_append]; have := HH.out; have := HL.out; have := HJ.out; have := HLL.out; omega)
                  (by rw [List.length_append, HP1.out.1.length_eq, List.length_append]; have := HH.out; have := HL.out; have := HJ.out; have := HLL.out; omega) HSU.out.2 HSV.out.2 (ahead_sub HS.out.2.2.1 HMU.out.2.1 HMU.out.2.2.2) (fun z h => HS.out.2.2.2.1 z (HMU.out.2.1 z h)) (fun z h => HS.out.2.2.2.2 z (HMU.out.2.2.2 z h)) (HCMP.out.of HC3.out)
                go_wp2_with fail
                refine hs2.mono ?_
                clear hs2
                rintro e9 w4 ⟨Z2, hp2, hz2, rfl, hG4, hC4⟩
                have HF := Lib.hid (show GaveSrt wc base g n c K p (u ++ v) q (.returned (.tuple #[])) w4 from ⟨Z1 ++ Z2, HPE.out _ _ HP1.out.1 hp2, srt_app.2 ⟨HP1.out.2, hz2, fun x hx y hy => HX.out x (HP1.out.1.mem_iff.1 hx) y (hp2.mem_iff.1 hy)⟩, rfl, by simpa using hG4, chg_g HC3.out hC4⟩)
                clear hp2 hz2 hG4 hC4
                go_wp2
                go_end0
                exact HF.out
              · have HA := Lib.hid (And.intro (And.intro hA hB) (And.intro hC hD))
                have dA : decide (S < m) = true := by
                  have := HH.out; have := HL.out; have := HJ.out; have := H2.out
                  first | exact decide_eq_true (by omega) | exact decide_eq_false (by omega)
                have dB : decide (m < E) = true := by
                  have := HH.out; have := HL.out; have := HJ.out; have := H2.out
                  first | exact decide_eq_true (by omega) | exact decide_eq_false (by omega)
                have dC : decide (a < S) = false := by
                  have := HH.out; have := HL.out; have := HJ.out; have := H2.out
                  first | exact decide_eq_true (by omega) | exact decide_eq_false (by omega)
                have dE : decide (S < mid) = true := by
                  have := HH.out; have := HL.out; have := HJ.out; have := H2.out
                  first | exact decide_eq_true (by omega) | exact decide_eq_false (by omega)
                have dF : decide (mid < E) = true := by
                  have := HH.out; have := HL.out; have := HJ.out; have := H2.out
                  first | exact decide_eq_true (by omega) | exact decide_eq_false (by omega)
                have dG : decide (E < b) = false := by
                  have := HH.out; have := HL.out; have := HJ.out; have := H2.out
                  first | exact decide_eq_true (by omega) | exact decide_eq_false (by omega)
                clear hA hB hC hD
                have hrot := rotate_any base g n c (p ++ u1) u2 v1 (v2 ++ q) S m E (.func (.func gf) #[ob] #[]) wr (by rw [List.append_assoc]; exact HG1.out)
                  (by rw [List.length_append]; have := HH.out; have := HL.out; have := HJ.out; have := HLL.out; omega) (by rw [List.length_append]; have := HH.out; have := HL.out; have := HJ.out; have := HLL.out; omega)
                  (by rw [List.length_append]; have := HH.out; have := HL.out; have := HJ.out; have := HLL.out; omega) (by have := HA.out; have := HLL.out; omega) (by have := HA.out; have := HLL.out; omega) HH.out.2.2
                go_wp2_with fail
                refine hrot.mono ?_
                clear hrot
                rintro e9 w2 ⟨rfl, hG2, hC2⟩
                rw [List.append_assoc] at hG2
                have HG2 := Lib.hid hG2
                have HC2 := Lib.hid (chg_g (chg_mg HC.out) hC2)
                clear hG2 hC2
                obtain ⟨w3, hw3⟩ : ∃ w3, w2 = w3 := ⟨_, rfl⟩
                obtain ⟨Z1, hZ1⟩ : ∃ Z1, u1 ++ v1 = Z1 := ⟨_, rfl⟩
                have HP1 := Lib.hid (show Z1.Perm (u1 ++ v1) ∧ Srt K Z1 from ⟨by rw [hZ1], by rw [← hZ1]; (rw [show u1 = [] from List.eq_nil_of_length_eq_zero (by have := HA.out; have := HLL.out; omega), List.nil_append]; exact HSV.out.1)⟩)
                have HG3 := Lib.hid (show AtG w2 base g n c (p ++ (Z1 ++ (u2 ++ (v2 ++ q)))) from by rw [← hZ1, List.append_assoc]; exact HG2.out)
                have HC3 := Lib.hid HC2.out
                rw [hw3] at HG3 HC3 ⊢
                clear hw3 hZ1
                have HF := Lib.hid (show GaveSrt wc base g n c K p (u ++ v) q (.returned (.tuple #[])) w3 from ⟨Z1 ++ (u2 ++ v2), HPE.out _ _ HP1.out.1 (List.Perm.refl _), srt_app.2 ⟨HP1.out.2, by (rw [show v2 = [] from List.eq_nil_of_length_eq_zero (by have := HA.out; have := HLL.out; omega), List.append_nil]; exact HSU.out.2), fun x hx y hy => HX.out x (HP1.out.1.mem_iff.1 hx) y hy⟩, rfl, by simpa using HG3.out, HC3.out⟩)
                go_wp2
                go_end0
                exact HF.out
          · have HA := Lib.hid (And.intro hA hB)
            have dA : decide (S < m) = true := by
              have := HH.out; have := HL.out; have := HJ.out; have := H2.out
              first | exact decide_eq_true (by omega) | exact decide_eq_false (by omega)
            have dB : decide (m < E) = false := by
              have := HH.out; have := HL.out; have := HJ.out; have := H2.out
              first | exact decide_eq_true (by omega) | exact decide_eq_false (by omega)
            have dC : decide (a < S) = true := by
              have := HH.out; have := HL.out; have := HJ.out; have := H2.out
              first | exact decide_eq_true (by omega) | exact decide_eq_false (by omega)
            have dE : decide (S < mid) = false := by
              have := HH.out; have := HL.out; have := HJ.out; have := H2.out
              first | exact decide_eq_true (by omega) | exact decide_eq_false (by omega)
            have dF : decide (mid < E) = true := by
              have := HH.out; have := HL.out; have := HJ.out; have := H2.out
              first | exact decide_eq_true (by omega) | exact decide_eq_false (by omega)
            have dG : decide (E < b) = true := by
              have := HH.out; have := HL.out; have := HJ.out; have := H2.out
              first | exact decide_eq_true (by omega) | exact decide_eq_false (by omega)
            clear hA hB
            obtain ⟨w2, hw2⟩ : ∃ w2, wr = w2 := ⟨_, rfl⟩
            have HC2 := Lib.hid (chg_mg (g := g) HC.out)
            have HG2 := Lib.hid (show AtG wr base g n c (p ++ (u1 ++ (v1 ++ (u2 ++ (v2 ++ q))))) from (by have := HG1.out; rw [show v1 = [] from List.eq_nil_of_length_eq_zero (by have := HA.out; have := HLL.out; omega)] at this ⊢; simpa using this))
            rw [hw2] at HC2 HG2 ⊢
            clear hw2
            obtain ⟨w3, hw3⟩ : ∃ w3, w2 = w3 := ⟨_, rfl⟩
            obtain ⟨Z1, hZ1⟩ : ∃ Z1, u1 ++ v1 = Z1 := ⟨_, rfl⟩
            have HP1 := Lib.hid (show Z1.Perm (u1 ++ v1) ∧ Srt K Z1 from ⟨by rw [hZ1], by rw [← hZ1]; (rw [show v1 = [] from List.eq_nil_of_length_eq_zero (by have := HA.out; have := HLL.out; omega), List.append_nil]; exact HSU.out.1)⟩)
            have HG3 := Lib.hid (show AtG w2 base g n c (p ++ (Z1 ++ (u2 ++ (v2 ++ q)))) from by rw [← hZ1, List.append_assoc]; exact HG2.out)
            have HC3 := Lib.hid HC2.out
            rw [hw3] at HG3 HC3 ⊢
            clear hw3 hZ1
            replace HA := Lib.hid (show s < ul ∧ M - s < vl from ⟨HA.out.1, by have := HA.out; have := H2.out; have := HL.out; omega⟩)
            have hs2 := IH.out (p ++ Z1) u2 v2 q mid E b w3 (by have := H2.out; have := HL.out; have := HJ.out; have := HLL.out; omega) (by have := HA.out; have := HLL.out; omega) (by have := HA.out; have := HLL.out; omega) (by rw [List.append_assoc]; exact HG3.out)
              (by rw [List.length_append, HP1.out.1.length_eq, List.length_append]; have := HH.out; have := HL.out; have := HJ.out; have := HLL.out; omega) (by rw [List.length_append, HP1.out.1.length_eq, List.length_append]; have := HH.out; have := HL.out; have := HJ.out; have := HLL.out; omega)
              (by rw [List.length_append, HP1.out.1.length_eq, List.length_append]; have := HH.out; have := HL.out; have := HJ.out; have := HLL.out; omega) HSU.out.2 HSV.out.2 (ahead_sub HS.out.2.2.1 HMU.out.2.1 HMU.out.2.2.2) (fun z h => HS.out.2.2.2.1 z (HMU.out.2.1 z h)) (fun z h => HS.out.2.2.2.2 z (HMU.out.2.2.2 z h)) (HCMP.out.of HC3.out)
            go_wp2_with fail
            refine hs2.mono ?_
            clear hs2
            rintro e9 w4 ⟨Z2, hp2, hz2, rfl, hG4, hC4⟩
            have HF := Lib.hid (show GaveSrt wc base g n c K p (u ++ v) q (.returned (.tuple #[])) w4 from ⟨Z1 ++ Z2, HPE.out _ _ HP1.out.1 hp2, srt_app.2 ⟨HP1.out.2, hz2, fun x hx y hy => HX.out x (HP1.out.1.mem_iff.1 hx) y (hp2.mem_iff.1 hy)⟩, rfl, by simpa using hG4, chg_g HC3.out hC4⟩)
            clear hp2 hz2 hG4 hC4
            go_wp2
            go_end0
            exact HF.out
        · by_cases hB : s < M
          · have HA := Lib.hid (And.intro (And.intro hA hB) (show 0 < s by have := H2.out; have := HL.out; have := HJ.out; omega))
            by_cases hD : M - s < vl
            · skip
              have dA : decide (S < m) = false := by
                have := HH.out; have := HL.out; have := HJ.out; have := H2.out
                first | exact decide_eq_true (by omega) | exact decide_eq_false (by omega)
              have dB : decide (m < E) = true := by
                have := HH.out; have := HL.out; have := HJ.out; have := H2.out
                first | exact decide_eq_true (by omega) | exact decide_eq_false (by omega)
              have dC : decide (a < S) = true := by
                have := HH.out; have := HL.out; have := HJ.out; have := H2.out
                first | exact decide_eq_true (by omega) | exact decide_eq_false (by omega)
              have dE : decide (S < mid) = true := by
                have := HH.out; have := HL.out; have := HJ.out; have := H2.out
                first | exact decide_eq_true (by omega) | exact decide_eq_false (by omega)
              have dF : decide (mid < E) = false := by
                have := HH.out; have := HL.out; have := HJ.out; have := H2.out
                first | exact decide_eq_true (by omega) | exact decide_eq_false (by omega)
              have dG : decide (E < b) = true := by
                have := HH.out; have := HL.out; have := HJ.out; have := H2.out
                first | exact decide_eq_true (by omega) | exact decide_eq_false (by omega)
              clear hA hB hD
              obtain ⟨w2, hw2⟩ : ∃ w2, wr = w2 := ⟨_, rfl⟩
              have HC2 := Lib.hid (chg_mg (g := g) HC.out)
              have HG2 := Lib.hid (show AtG wr base g n c (p ++ (u1 ++ (v1 ++ (u2 ++ (v2 ++ q))))) from (by have := HG1.out; rw [show u2 = [] from List.eq_nil_of_length_eq_zero (by have := HA.out; have := HLL.out; omega)] at this ⊢; simpa using this))
              rw [hw2] at HC2 HG2 ⊢
              clear hw2
              have hs1 := IH.out p u1 v1 (u2 ++ (v2 ++ q)) a S mid w2 (by have := H2.out; have := HL.out; have := HJ.out; have := HLL.out; omega) (by have := HA.out; have := HLL.out; omega) (by have := HA.out; have := HLL.out; omega) HG2.out HH.out.1.1
                (by have := HH.out; have := HJ.out; have := HLL.out; omega) (by have := HH.out; have := HL.out; have := HJ.out; have := HLL.out; omega) HSU.out.1 HSV.out.1 (ahead_sub HS.out.2.2.1 HMU.out.1 HMU.out.2.2.1) (fun z h => HS.out.2.2.2.1 z (HMU.out.1 z h)) (fun z h => HS.out.2.2.2.2 z (HMU.out.2.2.1 z h)) (HCMP.out.of HC2.out)
              go_wp2_with fail
              refine hs1.mono ?_
              clear hs1
              rintro e9 w3 ⟨Z1, hp1, hz1, rfl, hG3, hC3⟩
              have HP1 := Lib.hid (And.intro hp1 hz1)
              have HG3 := Lib.hid hG3
              have HC3 := Lib.hid (chg_g HC2.out hC3)
              clear hp1 hz1 hG3 hC3
              have HF := Lib.hid (show GaveSrt wc base g n c K p (u ++ v) q (.returned (.tuple #[])) w3 from ⟨Z1 ++ (u2 ++ v2), HPE.out _ _ HP1.out.1 (List.Perm.refl _), srt_app.2 ⟨HP1.out.2, by (rw [show u2 = [] from List.eq_nil_of_length_eq_zero (by have := HA.out; have := HLL.out; omega), List.nil_append]; exact HSV.out.2), fun x hx y hy => HX.out x (HP1.out.1.mem_iff.1 hx) y hy⟩, rfl, by simpa using HG3.out, HC3.out⟩)
              go_wp2
              go_end0
              exact HF.out
            · skip
              have dA : decide (S < m) = false := by
                have := HH.out; have := HL.out; have := HJ.out; have := H2.out
                first | exact decide_eq_true (by omega) | exact decide_eq_false (by omega)
              have dB : decide (m < E) = true := by
                have := HH.out; have := HL.out; have := HJ.out; have := H2.out
                first | exact decide_eq_true (by omega) | exact decide_eq_false (by omega)
              have dC : decide (a < S) = true := by
                have := HH.out; have := HL.out; have := HJ.out; have := H2.out
                first | exact decide_eq_true (by omega) | exact decide_eq_false (by omega)
              have dE : decide (S < mid) = true := by
                have := HH.out; have := HL.out; have := HJ.out; have := H2.out
                first | exact decide_eq_true (by omega) | exact decide_eq_false (by omega)
              have dF : decide (mid < E) = false := by
                have := HH.out; have := HL.out; have := HJ.out; have := H2.out
                first | exact decide_eq_true (by omega) | exact decide_eq_false (by omega)
              have dG : decide (E < b) = false := by
                have := HH.out; have := HL.out; have := HJ.out; have := H2.out
                first | exact decide_eq_true (by omega) | exact decide_eq_false (by omega)
              clear hA hB hD
              obtain ⟨w2, hw2⟩ : ∃ w2, wr = w2 := ⟨_, rfl⟩
              have HC2 := Lib.hid (chg_mg (g := g) HC.out)
              have HG2 := Lib.hid (show AtG wr base g n c (p ++ (u1 ++ (v1 ++ (u2 ++ (v2 ++ q))))) from (by have := HG1.out; rw [show u2 = [] from List.eq_nil_of_length_eq_zero (by have := HA.out; have := HLL.out; omega)] at this ⊢; simpa using this))
              rw [hw2] at HC2 HG2 ⊢
              clear hw2
              have hs1 := IH.out p u1 v1 (u2 ++ (v2 ++ q)) a S mid w2 (by have := H2.out; have := HL.out; have := HJ.out; have := HLL.out; omega) (by have := HA.out; have := HLL.out; omega) (by have := HA.out; have := HLL.out; omega) HG2.out HH.out.1.1
                (by have := HH.out; have := HJ.out; have := HLL.out; omega) (by have := HH.out; have := HL.out; have := HJ.out; have := HLL.out; omega) HSU.out.1 HSV.out.1 (ahead_sub HS.out.2.2.1 HMU.out.1 HMU.out.2.2.1) (fun z h => HS.out.2.2.2.1 z (HMU.out.1 z h)) (fun z h => HS.out.2.2.2.2 z (HMU.out.2.2.1 z h)) (HCMP.out.of HC2.out)
              go_wp2_with fail
              refine hs1.mono ?_
              clear hs1
              rintro e9 w3 ⟨Z1, hp1, hz1, rfl, hG3, hC3⟩
              have HP1 := Lib.hid (And.intro hp1 hz1)
              have HG3 := Lib.hid hG3
              have HC3 := Lib.hid (chg_g HC2.out hC3)
              clear hp1 hz1 hG3 hC3
              have HF := Lib.hid (show GaveSrt wc base g n c K p (u ++ v) q (.returned (.tuple #[])) w3 from ⟨Z1 ++ (u2 ++ v2), HPE.out _ _ HP1.out.1 (List.Perm.refl _), srt_app.2 ⟨HP1.out.2, by (rw [show u2 = [] from List.eq_nil_of_length_eq_zero (by have := HA.out; have := HLL.out; omega), List.nil_append]; exact HSV.out.2), fun x hx y hy => HX.out x (HP1.out.1.mem_iff.1 hx) y hy⟩, rfl, by simpa using HG3.out, HC3.out⟩)
              go_wp2
              go_end0
              exact HF.out
          · have HA := Lib.hid (And.intro hA hB)
            have dA : decide (S < m) = false := by
              have := HH.out; have := HL.out; have := HJ.out; have := H2.out
              first | exact decide_eq_true (by omega) | exact decide_eq_false (by omega)
            have dB : decide (m < E) = false := by
              have := HH.out; have := HL.out; have := HJ.out; have := H2.out
              first | exact decide_eq_true (by omega) | exact decide_eq_false (by omega)
            have dC : decide (a < S) = true := by
              have := HH.out; have := HL.out; have := HJ.out; have := H2.out
              first | exact decide_eq_true (by omega) | exact decide_eq_false (by omega)
            have dE : decide (S < mid) = false := by
              have := HH.out; have := HL.out; have := HJ.out; have := H2.out
              first | exact decide_eq_true (by omega) | exact decide_eq_false (by omega)
            have dF : decide (mid < E) = false := by
              have := HH.out; have := HL.out; have := HJ.out; have := H2.out
              first | exact decide_eq_true (by omega) | exact decide_eq_false (by omega)
            have dG : decide (E < b) = true := by
              have := HH.out; have := HL.out; have := HJ.out; have := H2.out
              first | exact decide_eq_true (by omega) | exact decide_eq_false (by omega)
            clear hA hB
            obtain ⟨w2, hw2⟩ : ∃ w2, wr = w2 := ⟨_, rfl⟩
            have HC2 := Lib.hid (chg_mg (g := g) HC.out)
            have HG2 := Lib.hid (show AtG wr base g n c (p ++ (u1 ++ (v1 ++ (u2 ++ (v2 ++ q))))) from (by have := HG1.out; rw [show u2 = [] from List.eq_nil_of_length_eq_zero (by have := HA.out; have := HLL.out; omega)] at this ⊢; simpa using this))
            rw [hw2] at HC2 HG2 ⊢
            clear hw2
            obtain ⟨w3, hw3⟩ : ∃ w3, w2 = w3 := ⟨_, rfl⟩
            obtain ⟨Z1, hZ1⟩ : ∃ Z1, u1 ++ v1 = Z1 := ⟨_, rfl⟩
            have HP1 := Lib.hid (show Z1.Perm (u1 ++ v1) ∧ Srt K Z1 from ⟨by rw [hZ1], by rw [← hZ1]; (rw [show v1 = [] from List.eq_nil_of_length_eq_zero (by have := HA.out; have := HLL.out; omega), List.append_nil]; exact HSU.out.1)⟩)
            have HG3 := Lib.hid (show AtG w2 base g n c (p ++ (Z1 ++ (u2 ++ (v2 ++ q)))) from by rw [← hZ1, List.append_assoc]; exact HG2.out)
            have HC3 := Lib.hid HC2.out
            rw [hw3] at HG3 HC3 ⊢
            clear hw3 hZ1
            have HF := Lib.hid (show GaveSrt wc base g n c K p (u ++ v) q (.returned (.tuple #[])) w3 from ⟨Z1 ++ (u2 ++ v2), HPE.out _ _ HP1.out.1 (List.Perm.refl _), srt_app.2 ⟨HP1.out.2, by (rw [show u2 = [] from List.eq_nil_of_length_eq_zero (by have := HA.out; have := HLL.out; omega), List.nil_append]; exact HSV.out.2), fun x hx y hy => HX.out x (HP1.out.1.mem_iff.1 hx) y hy⟩, rfl, by simpa using HG3.out, HC3.out⟩)
            go_wp2
            go_end0
            exact HF.out
theorem sym_any (base g n c gf : Nat) (ob : Value) (K : Int → Int) (Dm : Int → Prop) (hn : n ≤ 1000000) : ∀ N, SymOk base g n c gf ob K Dm N
  | 0 => fun p u v q a m b w h0 h1 h2 => by omega
  | N + 1 => fun p u v q a m b w h0 h1 h2 hG ha hm hb hu hv hah hDu hDv hcmp => by
    by_cases e1 : u.length = 1
    · obtain ⟨x, rfl⟩ := List.length_eq_one_iff.1 e1
      exact sym_left base g n c p v q x a m b gf ob K Dm w hG ha (by simpa using hm) (by simpa using hb) hv (fun y hy => hah x (by simp) y hy) ⟨hDu x (by simp), hDv⟩ hcmp hn
    · by_cases e2 : v.length = 1
      · obtain ⟨y, rfl⟩ := List.length_eq_one_iff.1 e2
        exact sym_right base g n c p u q y a m b gf ob K Dm w hG ha hm (by simp at hb; omega) (by omega) hu (fun x hx => hah x hx y (by simp)) ⟨hDv y (by simp), hDu⟩ hcmp hn
      · exact sym_gen base g n c p u v q a m b N gf ob K Dm w (sym_any base g n c gf ob K Dm hn N) h0 (by omega) (by omega) hG ha hm hb hu hv hah hDu hDv hcmp hn
end Go.Proofs.Ytnjnajbdpaaikaa
