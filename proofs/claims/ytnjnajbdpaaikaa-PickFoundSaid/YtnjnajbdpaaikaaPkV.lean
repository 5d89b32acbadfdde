/- slices' stable sort: insertion. -/
import Derived.Test.YtnjnajbdpaaikaaPkU
import Derived.Deep.RegionHeld3
namespace Go.Proofs.Ytnjnajbdpaaikaa
open Go.RowKit Go.Shelf

def cmpN (a b : Int) : Int := if a < b then -1 else if b < a then 1 else 0
theorem cmpN_lt (a b : Int) : decide (cmpN a b < 0) = decide (a < b) := by
  unfold cmpN
  by_cases h : a < b
  · simp [h]
  · by_cases h2 : b < a <;> simp [h, h2]
/-- A comparison by a key, of numbers that are places; it leaves what is sorted alone. -/
def CmpAt (w : World) (g gf : Nat) (ob : Value) (K : Int → Int) (Dm : Int → Prop) : Prop :=
  (∀ args w, (callFunc gf args).run Try.prog w = .ok (.enter gf args) w) ∧ ∀ x y, Dm x → Dm y → ∀ w', Chg (fun q => q = g) w w' → Calls Try.prog gf #[ob, .int .i64 x, .int .i64 y] w' (GaveI w' (cmpN (K x) (K y)))
theorem CmpAt.of {w w' : World} {g gf : Nat} {ob : Value} {K : Int → Int} {Dm : Int → Prop} (h : CmpAt w g gf ob K Dm) (hC : Chg (fun q => q = g) w w') : CmpAt w' g gf ob K Dm := ⟨h.1, fun x y hx hy w2 h2 => h.2 x y hx hy w2 (chg_g hC h2)⟩
def GaveSrt (w : World) (base g n c : Nat) (K : Int → Int) (p X q : List Int) (e : Ending) (w' : World) : Prop := ∃ Z, Z.Perm X ∧ Srt K Z ∧ Sorts w base g n c (p ++ (Z ++ q)) e w'
theorem chg_drew' {w w' : World} (h : Chg (fun _ => False) w w') : Chg (fun _ => False) w w'.drew := h.drew
theorem chg_mg {g : Nat} {w w' : World} (h : Chg (fun _ => False) w w') : Chg (fun q => q = g) w w' := h.mono (fun _ _ h => h.elim)
theorem chg_fg {g : Nat} {a b c : World} (h : Chg (fun q => q = g) a b) (k : Chg (fun _ => False) b c) : Chg (fun q => q = g) a c := chg_g h (chg_mg k)
set_option maxRecDepth 100000 in
set_option maxHeartbeats 2000000 in
theorem insert_any (base g n c : Nat) (p X q : List Int) (a b : Nat) (gf : Nat) (ob : Value) (K : Int → Int) (Dm : Int → Prop) (w : World) (h : AtG w base g n c (p ++ (X ++ q))) (ha : a = p.length) (hb : b = p.length + X.length) (hlt : X.Pairwise (· < ·)) (hD : ∀ z ∈ X, Dm z) (hcmp : CmpAt w g gf ob K Dm) (hn : n ≤ 1000000) :
    Calls Try.prog 98 #[.slice (some ⟨g, 0, none⟩) n c, .int .i64 a, .int .i64 b, .func (.func gf) #[ob] #[]] w (GaveSrt w base g n c K p X q) := by
  have hlen := h.len
  simp only [List.length_append] at hlen
  have k1 : IntKind.i64.wrap ((a : Int) + 1) = ((a + 1 : Nat) : Int) := by rw [IntWalk.i64_in _ (by omega)]; omega
  have h0 : ∃ t s, 1 ≤ t ∧ (t ≤ X.length ∨ t = 1) ∧ s.Perm (X.take t) ∧ Srt K s ∧ AtG w base g n c (p ++ (s ++ (X.drop t ++ q))) ∧ ∃ i, i = a + t ∧ Value.int .i64 ((a + 1 : Nat) : Int) = .int .i64 (i : Int) :=
    ⟨1, X.take 1, Nat.le_refl _, .inr rfl, List.Perm.refl _, by
      cases X with
      | nil => exact srt_nil K
      | cons x r => exact srt_one K x, by rw [← List.append_assoc (X.take 1), List.take_append_drop]; exact h, _, rfl, rfl⟩
  have HH := Lib.hid (And.intro (And.intro ha hb) (And.intro hlen hn))
  have HLT := Lib.hid hlt
  have HD := Lib.hid hD
  have HCMP := Lib.hid hcmp
  have eg := hcmp.1
  clear h ha hb hlen hn hlt hD hcmp
  go_enter Try.func98, Try.ntmps98
  go_wp2
  clear k1
  go_loopw [8] (fun v wr => ∃ t s, 1 ≤ t ∧ (t ≤ X.length ∨ t = 1) ∧ s.Perm (X.take t) ∧ Srt K s ∧ AtG wr base g n c (p ++ (s ++ (X.drop t ++ q))) ∧ (∃ i, i = a + t ∧ v = .int .i64 (i : Int)) ∧ Chg (fun q => q = g) w wr) (fun v _ => b + 1 - (intOf v).toNat)
  case atStart =>
    obtain ⟨t, s, h1, h2, h3, h4, h5, h6⟩ := h0
    exact ⟨t, s, h1, h2, h3, h4, h5, h6, Chg.refl _ _⟩
  case round =>
    obtain ⟨t, s, ht1, ht2, hp, hs, hG, ⟨i, hi, rfl⟩, hC⟩ := hrel
    clear h0
    obtain ⟨⟨ha, hb⟩, hlen, hn⟩ := HH.out
    by_cases hlt : t < X.length
    · have hd : decide (i < b) = true := decide_eq_true (by omega)
      have hx : X.drop t = X[t] :: X.drop (t + 1) := List.drop_eq_getElem_cons hlt
      have hXt : X.take (t + 1) = X.take t ++ [X[t]] := List.take_succ_eq_append_getElem hlt
      have hnum : ∀ u ∈ s, u < X[t] := by
        intro u hu
        have h1 := HLT.out
        rw [← List.take_append_drop (t + 1) X, hXt] at h1
        exact (List.pairwise_append.1 (List.pairwise_append.1 h1).1).2.2 u (hp.mem_iff.1 hu) _ (by simp)
      have hDs : ∀ u ∈ s, Dm u := fun u hu => HD.out u (List.mem_of_mem_take (hp.mem_iff.1 hu))
      have hDx : Dm X[t] := HD.out _ (List.getElem_mem _)
      have hsl : s.length = t := by rw [hp.length_eq, List.length_take]; omega
      rw [hx] at hG
      have HP := Lib.hid (show ∀ l r, s = l ++ r → (l ++ X[t] :: r).Perm (X.take (t + 1)) from fun l r e => by
        rw [hXt]
        refine List.perm_middle.trans ?_
        rw [← e]
        exact (List.Perm.cons _ hp).trans (List.perm_append_singleton _ _).symm)
      generalize X[t] = x at *
      have h1 : ∃ l r, s = l ++ r ∧ (∀ z, r[0]? = some z → Lo K x z) ∧ AtG wr base g n c (p ++ (l ++ (x :: (r ++ (X.drop (t + 1) ++ q))))) ∧ ∃ j, j = a + l.length ∧ Value.int .i64 (i : Int) = .int .i64 (j : Int) :=
        ⟨s, [], by simp, fun z hz => by simp at hz, by simpa using hG, i, by rw [hsl, hi], rfl⟩
      have HN := Lib.hid (And.intro hnum (And.intro hDs hDx))
      have HS := Lib.hid hs
      have HSL := Lib.hid hsl
      have HC := Lib.hid hC
      have HT := Lib.hid (And.intro ht1 hlt)
      have HI := Lib.hid hi
      clear hi hnum hDs hDx hsl hs hC hp hG hx hXt hlt ht1 ht2 ha hb hlen hn
      go_wp2
      obtain ⟨wo, rfl⟩ : ∃ wo : World, wo = wr := ⟨_, rfl⟩
      go_loopw [9] (fun v wr => ∃ l r, s = l ++ r ∧ (∀ z, r[0]? = some z → Lo K x z) ∧ AtG wr base g n c (p ++ (l ++ (x :: (r ++ (X.drop (t + 1) ++ q))))) ∧ (∃ j, j = a + l.length ∧ v = .int .i64 (j : Int)) ∧ Chg (fun q => q = g) wo wr) (fun v _ => (intOf v).toNat)
      case atStart =>
        obtain ⟨l, r, q1, q2, q3, q4⟩ := h1
        exact ⟨l, r, q1, q2, q3, q4, Chg.refl _ _⟩
      case round =>
        obtain ⟨l, r, hlr, hr0, hG, ⟨j, hj, rfl⟩, hCw⟩ := hrel
        clear h1
        have hji : ∃ jn : Nat, j = jn := ⟨j, rfl⟩
        rcases List.eq_nil_or_concat l with hl | ⟨l', u, hl⟩
        · subst hl
          have hd : decide (a < j) = false := decide_eq_false (by simp at hj; omega)
          have HSS := Lib.hid (show Srt K (x :: r) from srt_ins (l := []) (by rw [List.nil_append] at hlr ⊢; rw [← hlr]; exact HS.out) (fun z hz => by simp at hz) hr0)
          have HPP := Lib.hid (HP.out [] r hlr)
          have HGf := Lib.hid hG
          have HCf := Lib.hid (chg_g HC.out hCw)
          have hkw : IntKind.i64.wrap ((i : Int) + 1) = ((i + 1 : Nat) : Int) := by
            have h1 := HI.out
            have h2 := HH.out
            have h3 := HT.out
            rw [IntWalk.i64_in _ (by omega)]; omega
          clear hlr hr0 hG hCw hj hji
          go_wp2
          go_quiet (fail)
          all_goals
            go_wp2
            go_roundw
            case rel => exact ⟨t + 1, _, by omega, .inl HT.out.2, HPP.out, HSS.out, HGf.out.fr ((Chg.refl _ _).drewN _), ⟨i + 1, by have := HI.out; omega, congrArg (Value.int IntKind.i64) (Int.natCast_succ i).symm⟩, HCf.out.drewN _⟩
            case measure =>
              have h1 := HI.out
              have h2 := HH.out
              have h3 := HT.out
              simp only [intOf]
              omega
        · rw [List.concat_eq_append] at hl
          subst hl
          simp only [List.length_append, List.length_cons, List.length_nil, Nat.zero_add] at hj
          obtain ⟨⟨ha, hb⟩, hlen, hn⟩ := HH.out
          obtain ⟨j1, hj1⟩ : ∃ j1, a + l'.length = j1 := ⟨_, rfl⟩
          have hd : decide (a < j) = true := decide_eq_true (by omega)
          have hu := HN.out.1 u (by rw [hlr]; simp)
          have hDu := HN.out.2.1 u (by rw [hlr]; simp)
          have eA : p ++ ((l' ++ [u]) ++ (x :: (r ++ (X.drop (t + 1) ++ q)))) = (p ++ l') ++ u :: ([] ++ x :: (r ++ (X.drop (t + 1) ++ q))) := by simp
          have eB : p ++ ((l' ++ [u]) ++ (x :: (r ++ (X.drop (t + 1) ++ q)))) = (p ++ (l' ++ [u])) ++ x :: (r ++ (X.drop (t + 1) ++ q)) := by simp
          have q1 : j1 = (p ++ l').length := by rw [List.length_append]; omega
          have q2 : j = (p ++ (l' ++ [u])).length := by simp only [List.length_append, List.length_cons, List.length_nil]; omega
          have q3 : j = (p ++ l').length + 1 + ([] : List Int).length := by rw [List.length_append]; simp; omega
          obtain ⟨c1, f1, g1⟩ := hG.cell eA q1
          obtain ⟨c2, f2, g2⟩ := hG.cell eB q2
          have HEX := Lib.hid (show ∀ w', AtG w' base g n c (p ++ ((l' ++ [u]) ++ (x :: (r ++ (X.drop (t + 1) ++ q))))) → _ from fun w' h => AtG.exch h eA q1 q3)
          have k1 : IntKind.i64.wrap ((j : Int) - 1) = (j1 : Int) := by rw [IntWalk.i64_in _ (by omega)]; omega
          have i1 : (0 : Int) ≤ (j1 : Int) := by omega
          have i2 : (0 : Int) ≤ (j : Int) := by omega
          have i3 : (j1 : Int) < (n : Int) := by omega
          have i4 : (j : Int) < (n : Int) := by omega
          have hne : ¬ j = j1 := by omega
          have hcc := HCMP.out.2 x u HN.out.2.2 hDu wr.drew ((chg_g HC.out hCw).drew)
          have hkw : IntKind.i64.wrap ((i : Int) + 1) = ((i + 1 : Nat) : Int) := by
            have h1 := HI.out
            have h3 := HT.out
            rw [IntWalk.i64_in _ (by omega)]; omega
          have hcl := cmpN_lt (K x) (K u)
          unfold GaveI at hcc
          generalize cmpN (K x) (K u) = cv at hcc hcl
          have KP := Lib.hid (show ∀ w', Chg (fun _ => False) wr w' → (Chg (fun _ => False) wr w' ∧ w'.cell? ⟨g, j, none⟩ = some (.int .i64 x) ∧ w'.cell? ⟨g, j1, none⟩ = some (.int .i64 u)) from fun w' h => ⟨h, h.cell c2 id, h.cell c1 id⟩)
          have HJ := Lib.hid (And.intro hj hj1)
          have HC1 := Lib.hid c1
          have HC2 := Lib.hid c2
          have HG := Lib.hid hG
          have HCw := Lib.hid hCw
          have HLR := Lib.hid (And.intro hlr hr0)
          have HU := Lib.hid hu
          clear eA eB q1 q2 q3 g1 g2 ha hb hlen hn hj hj1 hG hCw hlr hr0 hDu hu hji
          by_cases hK : K x < K u
          · have hcl' : decide (cv < 0) = true := by rw [hcl]; exact decide_eq_true hK
            have HK := Lib.hid hK
            clear hK hcl
            go_wp2
            go_region_held3 (fun w' => Chg (fun _ => False) wr w' ∧ w'.cell? ⟨g, j, none⟩ = some (.int .i64 x) ∧ w'.cell? ⟨g, j1, none⟩ = some (.int .i64 u)) ((refine KP.out _ ?_; repeat (first | (with_reducible exact Chg.refl _ _) | (with_reducible refine chg_drew' ?_) | (with_reducible refine Chg.tr ?_ hCP)))) (first | ((with_reducible refine hcc.mono ?_); rintro e9 wP ⟨rfl, hCP⟩))
            all_goals
              rename_i hHd
              have hF := hHd.1
              replace c1 := hF.cell c1 id
              replace c2 := hF.cell c2 id
              replace f1 := hF.frozen HC1.out f1 id
              replace f2 := hF.frozen HC2.out f2 id
              have hex := HEX.out wP (HG.out.fr hF)
              have HEX2 := Lib.hid hex
              have HF := Lib.hid hF
              clear hHd hCP hex hF
              go_wp2
              go_region
              all_goals
                go_wp2
                go_roundw
                case rel => exact ⟨l', u :: r, by rw [HLR.out.1]; simp, fun z hz => (by cases hz; exact lo_yes HK.out), (by have := HEX2.out.2.1.fr ((Chg.refl _ _).drew); simpa using this), ⟨j1, HJ.out.2.symm, rfl⟩, (chg_g (chg_fg HCw.out HF.out) HEX2.out.2.2.2).drew⟩
                case measure =>
                  have h1 := HJ.out
                  simp only [intOf]
                  omega
          · have hcl' : decide (cv < 0) = false := by rw [hcl]; exact decide_eq_false hK
            have HK := Lib.hid hK
            clear hK hcl
            go_wp2
            go_region_held3 (fun w' => Chg (fun _ => False) wr w' ∧ w'.cell? ⟨g, j, none⟩ = some (.int .i64 x) ∧ w'.cell? ⟨g, j1, none⟩ = some (.int .i64 u)) ((refine KP.out _ ?_; repeat (first | (with_reducible exact Chg.refl _ _) | (with_reducible refine chg_drew' ?_) | (with_reducible refine Chg.tr ?_ hCP)))) (first | ((with_reducible refine hcc.mono ?_); rintro e9 wP ⟨rfl, hCP⟩))
            all_goals
              rename_i hHd
              have hF := hHd.1
              have HSS := Lib.hid (show Srt K ((l' ++ [u]) ++ x :: r) from srt_ins (by rw [← HLR.out.1]; exact HS.out) (fun z hz => (by simp at hz; subst hz; exact lo_not HU.out (by have := HK.out; omega))) HLR.out.2)
              have HPP := Lib.hid (HP.out _ r HLR.out.1)
              have HGf := Lib.hid (HG.out.fr hF)
              have HCf := Lib.hid (chg_g HC.out (chg_fg HCw.out hF))
              clear hHd hCP hF
              go_wp2
              go_roundw
              case rel => exact ⟨t + 1, _, by omega, .inl HT.out.2, HPP.out, HSS.out, (by have := HGf.out; simpa using this), ⟨i + 1, by have := HI.out; omega, congrArg (Value.int IntKind.i64) (Int.natCast_succ i).symm⟩, HCf.out⟩
              case measure =>
                have h1 := HI.out
                have h2 := HH.out
                have h3 := HT.out
                simp only [intOf]
                omega
    · have hd : decide (i < b) = false := decide_eq_false (by omega)
      have e1 : X.drop t = [] := List.drop_eq_nil_of_le (by omega)
      have e2 : X.take t = X := List.take_of_length_le (by omega)
      rw [e1, List.nil_append] at hG
      rw [e2] at hp
      have HG := Lib.hid (show GaveSrt w base g n c K p X q (.returned (.tuple #[])) wr from ⟨s, hp, hs, rfl, hG, hC⟩)
      clear hG hp hs hC e1 e2 hi hlt ha hb hlen hn ht1 ht2
      go_wp2
      go_end0
      exact HG.out
end Go.Proofs.Ytnjnajbdpaaikaa
