/- pick: compress' way. -/
import Derived.Test.YtnjnajbdpaaikaaPkM
import Derived.Test.YtnjnajbdpaaikaaPkB
namespace Go.Proofs.Ytnjnajbdpaaikaa
open Go.RowKit Go.Shelf

theorem cpW_err {L : Ar} {s : List Int} {n : Int} (h : cpE L s = n) (hn : n ≠ 0) : cpW L s = noW n := by
  unfold cpW
  rw [h, if_neg hn]
theorem cp_shape {L : Ar} {s : List Int} (h : shB s = false) : cpE L s = 110 := by
  unfold cpE
  rw [h]
  rfl
theorem cp_list {L : Ar} {s : List Int} (h : shB s = true) (h2 : lstE L ≠ 0) : cpE L s = lstE L := by
  unfold cpE
  rw [h, if_pos rfl, if_neg h2]
theorem cp_neg {L : Ar} {s : List Int} (h : shB s = true) (h2 : lstE L = 0) (h3 : L.e.any (fun n => decide (n < 0)) = true) : cpE L s = 5 := by
  unfold cpE
  rw [h, if_pos rfl, if_pos h2, if_pos h3]
theorem cp_len {L : Ar} {s : List Int} (h : shB s = true) (h2 : lstE L = 0) (h3 : L.e.any (fun n => decide (n < 0)) = false) (h4 : L.s ≠ []) (h5 : (L.e.length : Int) ≠ cpLong L s) : cpE L s = 4 := by
  unfold cpE
  rw [h, if_pos rfl, if_pos h2, if_neg (by simp [h3]), if_pos ⟨h4, h5⟩]
theorem cp_lim {L : Ar} {s : List Int} (h : shB s = true) (h2 : lstE L = 0) (h3 : L.e.any (fun n => decide (n < 0)) = false) (h4 : L.s = [] ∨ (L.e.length : Int) = cpLong L s) (h5 : ¬ (sumL (cntL L (cpLong L s).toNat) ≤ 4096 ∧ shB (cpTo L s) = true)) : cpE L s = 9 := by
  unfold cpE
  rw [h, if_pos rfl, if_pos h2, if_neg (by simp [h3]), if_neg (fun q => h4.elim q.1 q.2), if_neg h5]
theorem cp_ok {L : Ar} {s : List Int} (h : shB s = true) (h2 : lstE L = 0) (h3 : L.e.any (fun n => decide (n < 0)) = false) (h4 : L.s = [] ∨ (L.e.length : Int) = cpLong L s) (h5 : sumL (cntL L (cpLong L s).toNat) ≤ 4096) (h6 : shB (cpTo L s) = true) : cpE L s = 0 := by
  unfold cpE
  rw [h, if_pos rfl, if_pos h2, if_neg (by simp [h3]), if_neg (fun q => h4.elim q.1 q.2), if_pos ⟨h5, h6⟩]
theorem cp_nil {L : Ar} : cpS L [] = [(L.e.length : Int)] ∧ cpLong L [] = (L.e.length : Int) := by
  refine ⟨rfl, rfl⟩
theorem cp_cons {L : Ar} {f : List Int} {m : Int} : cpS L (f ++ [m]) = f ++ [m] ∧ cpLong L (f ++ [m]) = m := by
  have h : cpS L (f ++ [m]) = f ++ [m] := if_neg (by simp)
  refine ⟨h, ?_⟩
  unfold cpLong
  rw [h]
  simp
/-- What compress' function tells. -/
def cpF (s : List Int) (had : Int) (c : List Int) (i : Int) : Int := if s = [] then 0 else i / (c.length : Int) * had + c.getD (i % (c.length : Int)).toNat 0
set_option maxRecDepth 100000 in
theorem cw_fnAt (w : World) (D : Nat → Prop) (b1 b2 b3 n cs M cc : Nat) (sa pa : Option Addr) (s c f : List Int) (had : Int) (hb1 : D b1) (hb2 : D b2) (hb3 : D b3) (hpd : ∀ q, (Value.slice pa M cc).ownBlock = some q → D q) (hn : s.length = n) (h1 : w.cell? ⟨b1, 0, none⟩ = some (.slice sa n cs)) (h2 : w.cell? ⟨b2, 0, none⟩ = some (.slice pa M cc)) (hM : c.length = M) (hc : Ls w (.slice pa M cc) c) (h3 : w.cell? ⟨b3, 0, none⟩ = some (.int .i64 had))
    (hb : s ≠ [] → 0 ≤ had ∧ had ≤ 4096) (hcb : ∀ x ∈ c, 0 ≤ x ∧ x ≤ 1000000) (hsh : shB (f ++ [(c.length : Int)]) = true) :
    FnAt w D 63 #[.pointer (some ⟨b1, 0, none⟩), .pointer (some ⟨b2, 0, none⟩), .pointer (some ⟨b3, 0, none⟩)] ((List.range (prodL (f ++ [(c.length : Int)])).toNat).map (fun (i : Nat) => ((0 : Int), cpF s had c i))) := by
  refine ⟨fun _ _ => rfl, fun i x hx w' hO => ?_⟩
  rw [List.getElem?_map, Option.map_eq_some_iff] at hx
  obtain ⟨j, hj, rfl⟩ := hx
  rw [List.getElem?_eq_some_iff] at hj
  obtain ⟨hj1, hj2⟩ := hj
  rw [List.getElem_range] at hj2
  subst hj2
  rw [List.length_range] at hj1
  have hp := (shB_iff.1 hsh).2.2
  by_cases hs : s = []
  · have h0 : n = 0 := by rw [← hn, hs]; rfl
    rw [h0] at h1
    rw [show cpF s had c i = 0 from if_pos hs]
    exact cw2_nil b1 b2 b3 i cs sa w' (hO.cell h1 hb1)
  · have h0 : 0 < n := by rw [← hn]; exact List.length_pos_iff.2 hs
    have hM0 : 0 < M := by
      rcases Nat.eq_zero_or_pos M with h | h
      · rw [prodL_zero _ (by rw [hM, h]; simp)] at hj1
        simp at hj1
      · exact h
    rw [show cpF s had c i = (i : Int) / (c.length : Int) * had + c.getD ((i : Int) % (c.length : Int)).toNat 0 from if_neg hs, hM]
    exact cw2_cons b1 b2 b3 i n M cs cc had sa pa c w' (hO.cell h1 hb1) h0 (hO.cell h2 hb2) hM hM0 (hc.chg hO (fun k hk hn => hn (hpd k hk))) (hO.cell h3 hb3) (hb hs) (by omega) hcb
theorem cpF_eq {L : Ar} {s : List Int} (i : Int) : cpF s (cpLong L s) (cpy (cntL L (cpLong L s).toNat) 0) i = cpP L s i := rfl
theorem cpF_nil (h h2 : Int) (c : List Int) (i : Int) : cpF [] h c i = cpF [] h2 c i := rfl
end Go.Proofs.Ytnjnajbdpaaikaa
