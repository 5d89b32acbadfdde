/- mold: the way that keeps spans, and to a shape that may be. -/
import Derived.Test.YtceooipljhjpaaaMdL
import Derived.Test.YtceooipljhjpaaaMdH
namespace Go.Proofs.Ytceooipljhjpaaa
open Go.RowKit Go.Shelf

def wiG (l : List Spn) : List (Int × Int) := (List.range (cntN (l.map Spn.l)).toNat).map fun (i : Nat) => wiP l (i : Int)
def wiW (l : List Spn) : Wy := limW (l.map Spn.l) (wiG l)
def SpFit (x : Spn) : Prop := (0 ≤ x.h ∧ x.h ≤ 4096) ∧ (-4096 ≤ x.a ∧ x.a ≤ 4096)
theorem wi_fnAt (l : List Spn) (v : Value) (w : World) (D : Nat → Prop) (b : Nat) (hb : D b) (hv : ∀ q, v.ownBlock = some q → D q) (hl : l.length ≤ 4) (hok : ∀ x ∈ l, SpFit x) (hsh : shB (l.map Spn.l) = true) (x0 : w.cell? ⟨b, 0, none⟩ = some v) (hS : Spns w v l) : FnAt w D 98 #[.pointer (some ⟨b, 0, none⟩)] (wiG l) := by
  refine ⟨fun _ _ => rfl, fun i x hx w' hO => ?_⟩
  unfold wiG at hx
  rw [List.getElem?_map, Option.map_eq_some_iff] at hx
  obtain ⟨j, hj, rfl⟩ := hx
  rw [List.getElem?_eq_some_iff] at hj
  obtain ⟨hj1, hj2⟩ := hj
  rw [List.getElem_range] at hj2
  subst hj2
  rw [List.length_range] at hj1
  have h1 := cntN_bd (l.map Spn.l)
  have hpos : ∀ x ∈ l, SpOk x := fun x hx => by
    have h2 := (shB_iff.1 hsh).2.1 x.l (List.mem_map_of_mem hx)
    refine ⟨⟨?_, h2.2⟩, hok x hx⟩
    rcases Int.lt_or_le 0 x.l with h | h
    · exact h
    · have h0 : x.l = 0 := by omega
      have h3 := prodL_zero (l.map Spn.l) (by rw [← h0]; exact List.mem_map_of_mem hx)
      rw [cntN_ok hsh, h3] at hj1
      simp at hj1
  exact wi1_any b v l i w' (hO.cell x0 hb) (hS.chg hO (fun k hk hn => hn (hv k hk))) hl hpos (by omega)
set_option maxRecDepth 100000 in
set_option maxHeartbeats 2000000 in
theorem mwithin_any (v : Value) (l : List Spn) (w : World) (hS : Spns w v l) (hl : l.length ≤ 4) (hok : ∀ x ∈ l, SpFit x) (hv : ∀ q, v.ownBlock = some q → q < w.heap.size) : Calls Try.prog 66 #[v] w (GaveWD (fun q => v.ownBlock = some q) w (wiW l)) := by
  obtain ⟨ao, c, rfl, _⟩ := hS.form
  have hC0 := ((Chg.refl (fun _ => False) w).alloc (.cells #[.slice ao l.length c] 84)).alloc (.cells #[.slice none 0 0, .nilFunc] 31)
  have z0 := new_cell (w.alloc (.cells #[.slice ao l.length c] 84)) #[.slice none 0 0, .nilFunc] 31 (i := 0) rfl
  have z1 := new_cell (w.alloc (.cells #[.slice ao l.length c] 84)) #[.slice none 0 0, .nilFunc] 31 (i := 1) rfl
  have f0 := new_frozen (w.alloc (.cells #[.slice ao l.length c] 84)) #[.slice none 0 0, .nilFunc] 31 0
  have f1 := new_frozen (w.alloc (.cells #[.slice ao l.length c] 84)) #[.slice none 0 0, .nilFunc] 31 1
  rw [World.size_alloc] at z0 z1 f0 f1
  have y0 := alloc_cell (new_cell w #[.slice ao l.length c] 84 (i := 0) rfl) (.cells #[.slice none 0 0, .nilFunc] 31)
  have hS1 := hS.fr hC0
  obtain ⟨i0, hi, hz0, hz1, hz2⟩ := info_parts info_int
  obtain ⟨n, hn⟩ : ∃ n, l.length = n := ⟨_, rfl⟩
  have HN := Lib.hid hn
  rw [hn] at hl hv y0 z0 z1 f0 f1 hC0 hS1 ⊢
  have HL := Lib.hid hl
  have HV := Lib.hid hv
  have HC0 := Lib.hid hC0
  have HS1 := Lib.hid hS1
  have HSZ := Lib.hid (show ((w.alloc (.cells #[.slice ao n c] 84)).alloc (.cells #[.slice none 0 0, .nilFunc] 31)).heap.size = w.heap.size + 2 by simp)
  clear hS hS1 hC0 hn hl hv
  go_enter Try.func66, Try.ntmps66
  go_wp2
  generalize (w.alloc (.cells #[.slice ao n c] 84)).alloc (.cells #[.slice none 0 0, .nilFunc] 31) = w1 at *
  go_loopw [4, 9] (fun v i wr => ∃ k : Nat, k ≤ n ∧ i = .int .i64 k ∧ Own wr w1.heap.size 3 v ((l.map Spn.l).take k) ∧ Chg (fun _ => False) w1 wr) (fun _ i _ => n - (intOf i).toNat)
  case atStart => exact ⟨0, Nat.zero_le _, rfl, Own.nil _ _ _, Chg.refl _ _⟩
  case round =>
    obtain ⟨k, hk, rfl, hown, hC⟩ := hrel
    obtain ⟨aow, Lw, cw, rfl, hLw⟩ := owns_name hown
    by_cases hlt : k < n
    · have hj2 : (k : Int) < (n : Int) := by omega
      have hkw : IntKind.i64.wrap ((k : Int) + 1) = (k : Int) + 1 := IntWalk.i64_in _ (by have := HL.out; omega)
      have hkl : k < l.length := by rw [HN.out]; exact hlt
      obtain ⟨bb, o, cc, e1, hx⟩ := (HS1.out.fr hC).cells k hkl
      injection e1 with e1 e2 e3
      clear e2 e3
      subst e1
      obtain ⟨c0, c1, c2⟩ := hx
      have hnext : (l.map Spn.l).take (k + 1) = (l.map Spn.l).take k ++ [l[k].l] := by
        rw [List.take_succ_eq_append_getElem (by rw [List.length_map]; exact hkl), List.getElem_map]
      obtain ⟨X, hX⟩ : ∃ X, l[k] = X := ⟨_, rfl⟩
      rw [hX] at c0 c1 c2 hnext
      have HX := Lib.hid hnext
      have HO := Lib.hid hown
      have HC := Lib.hid hC
      clear hnext hX hown hC
      have hszw := HC.out.size
      have hLk : Lw = k := by rw [hLw.out, List.length_take, List.length_map]; omega
      have HLk := Lib.hid hLk
      clear hLk
      have ONE := Lib.hid (show ∀ j u, [(.int .i64 X.l : Value)][j]? = some u → ((wr.alloc (.cells #[.int .i64 X.h, .int .i64 X.l, .int .i64 X.a] 117)).alloc (.cells #[.int .i64 X.l] 3)).cell? ((⟨wr.heap.size + 1, 0, none⟩ : Addr).add j) = some u from fun j u hj => by
        have hk := new_cell (wr.alloc (.cells #[.int .i64 X.h, .int .i64 X.l, .int .i64 X.a] 117)) #[.int .i64 X.l] 3 (i := 0) rfl
        rw [World.size_alloc] at hk
        cases j with
        | zero => cases hj; exact hk
        | succ j => simp at hj)
      go_wp2_with (at_builtin; go_must (refine wpList_append_own_any rfl (.tmp 13) (.tmp 16) 22 rfl w1.heap.size 3 i0 (.int .i64 0) 1 8 Try.underlying22 hi hz0 hz1 hz2 rfl (by decide) (.slice aow Lw cw) _ _ rfl ((HO.out.alloc _).alloc _) (some ⟨wr.heap.size + 1, 0, none⟩) 1 1 [.int .i64 X.l] rfl rfl (fun j u hu => ⟨_, rfl, ONE.out j u hu⟩) (by simp [Value.oneCell']) (by have := HL.out; have := HLk.out; unfold maxLen; rw [List.length_take, List.length_map]; omega) (by have := HL.out; rw [List.length_take, List.length_map]; omega) (by simp; omega) ?_); intro v2 w2 hown2 hg _ _; obtain ⟨ao2, L2, cp2, rfl, hL2⟩ := owns_name hown2)
      have hm1 : n - (k + 1) < n - k := by omega
      have HM := Lib.hid hm1
      clear hm1
      go_wp2
      go_roundw
      case rel =>
        refine ⟨k + 1, by omega, rfl, ?_, ((HC.out.alloc _).alloc _).grown hg (fun q e => .inr ?_)⟩
        · rw [HX.out]
          unfold Own
          rw [List.length_append, List.map_append]
          exact hown2
        · exact (HO.out.lt _ e).1
      case measure => exact HM.out
    · have hj2 : ¬ (k : Int) < (n : Int) := by omega
      have hkn : k = n := by omega
      subst hkn
      have hfull : (l.map Spn.l).take k = l.map Spn.l := List.take_of_length_le (by rw [List.length_map, HN.out]; exact Nat.le_refl _)
      rw [hfull] at hown
      have hy := hC.cell y0 id
      replace f0 := hC.frozen z0 f0 id
      replace f1 := hC.frozen z1 f1 id
      replace z0 := hC.cell z0 id
      replace z1 := hC.cell z1 id
      have hSw := HS1.out.fr hC
      have hlim := limited_any (fun q => (Value.slice ao k c).ownBlock = some q ∨ (w.heap.size ≤ q ∧ q ≠ w.heap.size + 1 ∧ q < wr.heap.size)) 98 #[.pointer (some ⟨w.heap.size, 0, none⟩)] (wiG l) _ (l.map Spn.l) wr hown.ls (fun q hq => .inr (by have := hown.lt q hq; have := HSZ.out; omega)) (fun q hq => by
          rcases hq with h | h
          · have := HV.out q h
            have := HSZ.out
            have := hC.size
            omega
          · exact h.2.2) (fun hsh => wi_fnAt l _ wr _ w.heap.size (.inr ⟨Nat.le_refl _, by omega, by have := HSZ.out; have := hC.size; omega⟩) (fun q hq => .inl hq) (by rw [HN.out]; exact HL.out) hok hsh hy hSw)
      have HLT := Lib.hid (show w.heap.size + 1 < wr.heap.size from cell_lt z0)
      have HCC := Lib.hid (HC0.out.trans hC (fun _ _ h => h) (fun _ _ h => h.elim))
      clear hown hC hSw
      go_wp2_with fail
      refine hlim.mono ?_
      clear hlim
      rintro e9 w9 ⟨v9, D9, rfl, hW9, hD9, hC9⟩
      obtain ⟨V0, V1, rfl, hv0, hv1⟩ := mway_agg hW9
      have st0 := fun (a : Addr) (m : Mode) (w : World) => run_store Try.prog w a V0 m hv0
      have st1 := fun (a : Addr) (m : Mode) (w : World) => run_store Try.prog w a V1 m hv1
      replace f0 := hC9.frozen z0 f0 id
      replace f1 := hC9.frozen z1 f1 id
      replace z0 := hC9.cell z0 id
      replace z1 := hC9.cell z1 id
      obtain ⟨g0, g1⟩ := mset2 V0 V1 z0 z1
      have HW9 := Lib.hid hW9
      have HD9 := Lib.hid hD9
      have HC9 := Lib.hid (HCC.out.tr hC9)
      clear hW9 hD9 hC9
      go_wp2
      simp [bodyPost, results, Try.results66, go_sem, g0, g1]
      refine mway_store (x := w.heap.size) (W := wiW l) HW9.out (fun q hq => ?_) (Nat.le_refl _) (Nat.le_succ _) (fun hk => ?_) HC9.out rfl
      · rcases HD9.out q hq with (h | h) | h
        · exact .inl h
        · exact .inr h.1
        · exact .inr (by have := HCC.out.size; omega)
      · rcases HD9.out _ hk with (h | h) | h
        · have := HV.out _ h
          omega
        · exact h.2.1 rfl
        · have := cell_lt z0
          have := HCC.out.size
          have := HLT.out
          omega
end Go.Proofs.Ytceooipljhjpaaa
