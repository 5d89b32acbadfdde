/- The document's digits: short, size. -/
import Derived.Test.YtjmlekdgipinfaaMp2
import Derived.Test.YtjmlekdgipinfaaMp5
namespace Go.Proofs.Ytjmlekdgipinfaa
open Go.RowKit Go.Shelf

def U (d : Nat) : Value := .int .u64 (d : Int)
/-- The slice v reads as the digits ds. -/
def Lu (w : World) (v : Value) (ds : List Nat) : Prop := Sl w v (ds.map U)
theorem Lu.fr {w w' : World} {v : Value} {ds : List Nat} (h : Lu w v ds) (hC : Chg (fun _ => False) w w') : Lu w' v ds := Sl.fr h hC
theorem Lu.form {w : World} {v : Value} {ds : List Nat} (h : Lu w v ds) : ∃ ao c, v = .slice ao ds.length c := by
  obtain ⟨ao, c, e, _⟩ := Sl.form h
  exact ⟨ao, c, by rw [e, List.length_map]⟩
theorem Lu.at {w : World} {ao : Option Addr} {n c : Nat} {ds : List Nat} (h : Lu w (.slice ao n c) ds) {j : Nat} (hj : j < ds.length) : ∃ b o, ao = some ⟨b, o, none⟩ ∧ w.cell? ⟨b, o + j, none⟩ = some (.int .u64 (ds[j] : Int)) := by
  obtain ⟨b, o, c', e, hc⟩ := Sl.cells h j (U ds[j]) (by rw [List.getElem?_map, List.getElem?_eq_getElem hj]; rfl)
  injection e with e1 e2 e3
  exact ⟨b, o, e1, hc⟩
theorem size_u64 (w : World) : (sizeOf 148).run Try.prog w = .ok 1 w := by kernel_rfl
theorem Lu.upto {w : World} {v : Value} {ds : List Nat} (h : Lu w v ds) (k : Nat) (hk : k ≤ ds.length) : ∃ ao c, Lu w (.slice ao k c) (ds.take k) ∧ (∀ W, (Instr.slice 122 v none (some (.int .i64 (k : Int))) none).run Try.prog W = .ok (.slice ao k c) W) := by
  obtain ⟨ao, c, hS, _, _, _, h5⟩ := Sl.slice (P := Try.prog) 122 148 Try.underlying122 size_u64 h 0 k (Nat.zero_le _) (by rw [List.length_map]; exact hk)
  rw [Nat.sub_zero] at hS h5
  rw [List.drop_zero, ← List.map_take] at hS
  exact ⟨ao, c, hS, h5 rfl⟩
def GaveLu (w : World) (ds : List Nat) (e : Ending) (w' : World) : Prop := ∃ ao c, e = .returned (.slice ao ds.length c) ∧ Lu w' (.slice ao ds.length c) ds ∧ Chg (fun _ => False) w w'
set_option maxHeartbeats 1000000 in
theorem r12short_any (v : Value) (l : List Nat) (w : World) (h : Lu w v l) (hd : Dig l) (hl : l.length ≤ 1000000) : Calls Try.prog 132 #[v] w (GaveLu w (dg (vl l))) := by
  obtain ⟨ao, c, rfl⟩ := h.form
  have HS := Lib.hid h
  have HD := Lib.hid hd
  obtain ⟨n, hn⟩ : ∃ n, l.length = n := ⟨_, rfl⟩
  rw [hn] at HS hl ⊢
  have HN := Lib.hid hn
  have HL := Lib.hid hl
  clear h hd hn hl
  go_enter Try.func132, Try.ntmps132
  go_wp2
  go_loopw [3] (fun v wr => ∃ m : Nat, m ≤ n ∧ v = .int .i64 m ∧ (∀ j (hj : j < l.length), m ≤ j → l[j] = 0) ∧ Chg (fun _ => False) w wr) (fun v _ => (intOf v).toNat)
  case atStart => exact ⟨n, Nat.le_refl _, rfl, fun j hj h => by have := HN.out; omega, Chg.refl _ _⟩
  case round =>
    obtain ⟨m, hm, rfl, hz, hC⟩ := hrel
    have HZ := Lib.hid hz
    have HM := Lib.hid (show m ≤ l.length by have := HN.out; omega)
    clear hz hm
    by_cases h0 : m = 0
    · have hnz : m = 0 ∨ ∃ h0 : m - 1 < l.length, l[m - 1] ≠ 0 := .inl h0
      have d0 : decide ((0 : Int) < (m : Int)) = false := decide_eq_false (by omega)
      have d1 : decide (0 < m) = false := decide_eq_false (by omega)
      clear h0
      obtain ⟨a2, c2, hS2, hcut⟩ := HS.out.upto m HM.out
      have HR := Lib.hid (short_dg HD.out HM.out HZ.out hnz)
      have HC := Lib.hid hC
      replace hS2 := hS2.fr hC
      have HS2 := Lib.hid hS2
      clear hnz hC hS2
      go_wp2
      go_ret
      have hlen : m = (dg (vl l)).length := by rw [← HR.out, List.length_take]; have := HM.out; omega
      refine ⟨a2, c2, by rw [← hlen]; rfl, ?_, HC.out⟩
      rw [← hlen, ← HR.out]
      exact HS2.out
    · obtain ⟨k, rfl⟩ : ∃ k, m = k + 1 := ⟨m - 1, by omega⟩
      have hkl : k < l.length := by have := HM.out; omega
      obtain ⟨b, o, e, hc⟩ := (HS.out.fr hC).at hkl
      subst e
      have kw : IntKind.i64.wrap (((k + 1 : Nat) : Int) - 1) = (k : Int) := (IntWalk.i64_in _ (by have := HM.out; have := HN.out; have := HL.out; omega)).trans (by omega)
      have d0 : decide ((0 : Int) < ((k + 1 : Nat) : Int)) = true := decide_eq_true (by omega)
      have d1 : decide (0 < k + 1) = true := decide_eq_true (by omega)
      have k1 : (0 : Int) ≤ (k : Int) := Int.natCast_nonneg k
      have k2 : (k : Int) < (n : Int) := by have := HN.out; omega
      obtain ⟨x, hx⟩ : ∃ x, l[k] = x := ⟨_, rfl⟩
      rw [hx] at hc
      have HX := Lib.hid (show ∃ h : k < l.length, l[k] = x from ⟨hkl, hx⟩)
      obtain ⟨m, hm⟩ : ∃ m, k + 1 = m := ⟨_, rfl⟩
      rw [hm] at kw d0 d1 HM HZ ⊢
      have HMK := Lib.hid hm
      clear hkl hx h0 hm
      by_cases hx0 : x = 0
      · have f1 : ((x : Int) == 0) = true := by rw [hx0]; rfl
        have HZ2 := Lib.hid (show ∀ j (hj : j < l.length), k ≤ j → l[j] = 0 from fun j hj hkj => by
          by_cases e : j = k
          · obtain ⟨h1, h2⟩ := HX.out
            subst e
            rw [h2]; exact hx0
          · exact HZ.out j hj (by have := HMK.out; omega))
        clear hx0
        go_wp2
        go_roundw
        case rel => exact ⟨k, by have := HMK.out; have := HM.out; have := HN.out; omega, rfl, HZ2.out, hC⟩
        case measure => have := HMK.out; simp [intOf]; omega
      · have f1 : ((x : Int) == 0) = false := beq_eq_false_iff_ne.2 (by omega)
        have hnz : m = 0 ∨ ∃ h0 : m - 1 < l.length, l[m - 1] ≠ 0 := .inr (by
          obtain ⟨h1, h2⟩ := HX.out
          have h3 := HMK.out
          subst h3
          exact ⟨h1, fun e => hx0 (h2.symm.trans e)⟩)
        clear hx0
        obtain ⟨a2, c2, hS2, hcut⟩ := HS.out.upto m HM.out
        have HR := Lib.hid (short_dg HD.out HM.out HZ.out hnz)
        have HC := Lib.hid hC
        replace hS2 := hS2.fr hC
        have HS2 := Lib.hid hS2
        clear hnz hC hS2
        go_wp2
        go_ret
        have hlen : m = (dg (vl l)).length := by rw [← HR.out, List.length_take]; have := HM.out; omega
        refine ⟨a2, c2, by rw [← hlen]; rfl, ?_, HC.out⟩
        rw [← hlen, ← HR.out]
        exact HS2.out
end Go.Proofs.Ytjmlekdgipinfaa
/- The document's digits: size, Of. -/
namespace Go.Proofs.Ytjmlekdgipinfaa
open Go.RowKit Go.Shelf

def szN (m n : Nat) : Int := if m < n then -1 else if n < m then 1 else 0
def GaveZ (w : World) (n : Int) (e : Ending) (w' : World) : Prop := e = .returned (.int .i64 n) ∧ Chg (fun _ => False) w w'
set_option maxHeartbeats 2000000 in
theorem r12size_any (u v : Value) (m n : Nat) (w : World) (hU : Lu w u (dg m)) (hV : Lu w v (dg n)) (hl : (dg m).length ≤ 1000000) (hl2 : (dg n).length ≤ 1000000) : Calls Try.prog 134 #[u, v] w (GaveZ w (szN m n)) := by
  obtain ⟨ao, c, rfl⟩ := hU.form
  obtain ⟨bo, d, rfl⟩ := hV.form
  obtain ⟨la, hla⟩ : ∃ x, (dg m).length = x := ⟨_, rfl⟩
  obtain ⟨lb, hlb⟩ : ∃ x, (dg n).length = x := ⟨_, rfl⟩
  rw [hla] at hU hl ⊢
  rw [hlb] at hV hl2 ⊢
  have HU := Lib.hid hU
  have HV := Lib.hid hV
  have HL := Lib.hid (And.intro hla (And.intro hlb (And.intro hl hl2)))
  clear hU hV hla hlb hl hl2
  by_cases he : la = lb
  · subst he
    have e0 : ((la : Int) != (la : Int)) = false := by simp
    have kw : IntKind.i64.wrap ((la : Int) - 1) = (la : Int) - 1 := IntWalk.i64_in _ (by have := HL.out; omega)
    go_enter Try.func134, Try.ntmps134
    go_wp2
    clear e0 kw
    go_loopw [5] (fun v wr => ∃ (j : Nat) (i : Int), i = (j : Int) - 1 ∧ j ≤ la ∧ v = .int .i64 i ∧ (dg m).drop j = (dg n).drop j ∧ Chg (fun _ => False) w wr) (fun v _ => (intOf v + 1).toNat)
    case atStart => exact ⟨la, (la : Int) - 1, rfl, Nat.le_refl _, rfl, by rw [List.drop_eq_nil_of_le (by have := HL.out; omega), List.drop_eq_nil_of_le (by have := HL.out; omega)], Chg.refl _ _⟩
    case round =>
      obtain ⟨j, i, hi, hj, rfl, hd, hC⟩ := hrel
      by_cases h0 : j = 0
      · subst h0
        obtain rfl : i = -1 := by omega
        have HC := Lib.hid hC
        have HR := Lib.hid (show szN m n = 0 by
          have : m = n := by rw [← vl_dg m, ← vl_dg n]; rw [List.drop_zero, List.drop_zero] at hd; rw [hd]
          unfold szN
          rw [this]
          simp)
        clear hi hj hd hC
        go_wp2
        go_ret
        exact ⟨by rw [HR.out]; rfl, HC.out⟩
      · obtain ⟨k, rfl⟩ : ∃ k, j = k + 1 := ⟨j - 1, by omega⟩
        obtain rfl : i = (k : Int) := by omega
        have hka : k < (dg m).length := by have := HL.out; omega
        have hkb : k < (dg n).length := by have := HL.out; omega
        obtain ⟨b1, o1, e1, hx⟩ := (HU.out.fr hC).at hka
        subst e1
        obtain ⟨b2, o2, e2, hy⟩ := (HV.out.fr hC).at hkb
        subst e2
        have HLS := Lib.hid (show (dg m)[k] < (dg n)[k] → m < n from fun h => by
          have := vl_less (dg_dig m) (by have := HL.out; omega) hka hkb hd h
          rwa [vl_dg, vl_dg] at this)
        have HGT := Lib.hid (show (dg n)[k] < (dg m)[k] → n < m from fun h => by
          have := vl_less (dg_dig n) (by have := HL.out; omega) hkb hka hd.symm h
          rwa [vl_dg, vl_dg] at this)
        have HEQ := Lib.hid (show (dg m)[k] = (dg n)[k] → (dg m).drop k = (dg n).drop k from fun h => by rw [List.drop_eq_getElem_cons hka, List.drop_eq_getElem_cons hkb, hd, h])
        have k1 : (0 : Int) ≤ (k : Int) := Int.natCast_nonneg k
        have k2 : (k : Int) < (la : Int) := by omega
        have kw : IntKind.i64.wrap ((k : Int) - 1) = (k : Int) - 1 := IntWalk.i64_in _ (by have := HL.out; omega)
        generalize (dg m)[k] = x at *
        generalize (dg n)[k] = y at *
        have HK := Lib.hid hj
        have HC := Lib.hid hC
        clear hd hka hkb h0 hi hj hC
        by_cases hxy : x < y
        · have d1 : decide (x < y) = true := decide_eq_true hxy
          have HR := Lib.hid (show szN m n = -1 from if_pos (HLS.out hxy))
          clear hxy
          go_wp2
          go_region
          all_goals
            go_wp2
            go_ret
            exact ⟨by rw [HR.out]; rfl, HC.out.drew⟩
        · have d1 : decide (x < y) = false := decide_eq_false hxy
          by_cases hyx : y < x
          · have d2 : decide (y < x) = true := decide_eq_true hyx
            have HR := Lib.hid (show szN m n = 1 by have := HGT.out hyx; unfold szN; rw [if_neg (by omega), if_pos this])
            clear hxy hyx
            go_wp2
            go_region
            all_goals
              go_wp2
              go_region
              all_goals
                go_wp2
                go_ret
                exact ⟨by rw [HR.out]; rfl, HC.out.drew.drew⟩
          · have d2 : decide (y < x) = false := decide_eq_false hyx
            have HD := Lib.hid (HEQ.out (by omega))
            clear hxy hyx
            go_wp2
            go_region
            all_goals
              go_wp2
              go_region
              all_goals
                go_wp2
                go_roundw
                case rel => exact ⟨k, (k : Int) - 1, rfl, by have := HK.out; omega, rfl, HD.out, HC.out.drew.drew⟩
                case measure => simp only [intOf]; omega
  · have e0 : ((la : Int) != (lb : Int)) = true := by rw [bne_iff_ne]; omega
    have HC := Lib.hid (Chg.refl (fun _ => False) w)
    by_cases h1 : la < lb
    · have d1 : decide (la < lb) = true := decide_eq_true h1
      have HR := Lib.hid (show szN m n = -1 by
        have h2 := dg_lt m
        have h3 := dg_ge (n := n) (k := la) (by have := HL.out; omega)
        rw [HL.out.1] at h2
        exact if_pos (by omega))
      go_enter Try.func134, Try.ntmps134
      clear he h1
      go_wp2
      go_ret
      exact ⟨by rw [HR.out]; rfl, HC.out⟩
    · have d1 : decide (la < lb) = false := decide_eq_false h1
      have HR := Lib.hid (show szN m n = 1 by
        have h2 := dg_lt n
        have h3 := dg_ge (n := m) (k := lb) (by have := HL.out; omega)
        rw [HL.out.2.1] at h2
        unfold szN
        rw [if_neg (by omega), if_pos (by omega)])
      go_enter Try.func134, Try.ntmps134
      clear he h1
      go_wp2
      go_ret
      exact ⟨by rw [HR.out]; rfl, HC.out⟩
/-- Appending a digit to digits of the call's own. -/
theorem own_dig {w : World} {base n : Nat} {v : Value} {o : List Nat} {x : Nat} (h : w.ownsRow base 148 1 v (n + 1) (o.map U ++ [U x])) : w.ownsRow base 148 1 v (n + 1) ((o ++ [x]).map U) := by
  rw [List.map_append]; exact h
theorem info_u64 : (Try.prog.info? 148).map (fun i => (i.zero, i.size, i.bytes)) = some (some (.int .u64 0), 1, 8) := by kernel_rfl
end Go.Proofs.Ytjmlekdgipinfaa
