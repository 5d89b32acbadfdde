/- mold: take's way and drop's, take and drop. -/
import Derived.Test.YtceooipljhjpaaaMdN
import Derived.Test.YtceooipljhjpaaaMdJ
namespace Go.Proofs.Ytceooipljhjpaaa
open Go.RowKit Go.Shelf

def tkW (L : Ar) (s : List Int) : Wy := if spN L s = 0 then wiW (spF takeF L s) else noW (spN L s)
def drW (L : Ar) (s : List Int) : Wy := if spN L s = 0 then wiW (spF dropF L s) else noW (spN L s)
theorem spN_ok {L : Ar} {s : List Int} (h : spN L s = 0) : shB s = true ∧ lstE L = 0 ∧ L.e.length = (spS s).length := by
  unfold spN at h
  split at h
  · rename_i h1
    split at h
    · rename_i h2
      split at h
      · rename_i h3
        exact ⟨h1, h2, h3⟩
      · exact absurd h (by decide)
    · rename_i h2
      exact absurd h h2
  · exact absurd h (by decide)
theorem spS_bd {s : List Int} (h : shB s = true) : (spS s).length ≤ 4 ∧ ∀ x ∈ spS s, 0 ≤ x ∧ x ≤ 4096 := by
  obtain ⟨h1, h2, _⟩ := shB_iff.1 h
  unfold spS
  split
  · exact ⟨by decide, fun x hx => by rw [List.mem_singleton] at hx; subst hx; decide⟩
  · exact ⟨h1, h2⟩
theorem len_bd (x : Int) : -4096 ≤ lenC x ∧ lenC x ≤ 4097 := by
  unfold lenC
  split <;> omega
theorem spF_len {kf : Int → Int → Spn} {L : Ar} {s : List Int} (h : spN L s = 0) : (spF kf L s).length = (spS s).length := by
  have h3 := (spN_ok h).2.2
  unfold spF rsS
  rw [if_pos h, List.length_zipWith, List.length_map]
  omega
theorem spF_mem {kf : Int → Int → Spn} {L : Ar} {s : List Int} {x : Spn} (hx : x ∈ spF kf L s) : ∃ m n, x = kf m n ∧ (0 ≤ m ∧ m ≤ 4096) ∧ -4096 ≤ n ∧ n ≤ 4097 := by
  unfold spF at hx
  split at hx
  · rename_i h
    obtain ⟨i, hi, rfl⟩ := List.mem_iff_getElem.1 hx
    rw [List.getElem_zipWith]
    refine ⟨_, _, rfl, (spS_bd (spN_ok h).1).2 _ (List.getElem_mem _), ?_⟩
    unfold rsS
    rw [List.getElem_map]
    exact len_bd _
  · simp at hx
theorem fit_take {m n : Int} (hm : 0 ≤ m ∧ m ≤ 4096) : SpFit (takeF m n) := by
  unfold takeF SpFit
  split
  · exact ⟨hm, by simp only; omega⟩
  · exact ⟨hm, by simp only; omega⟩
theorem fit_drop {m n : Int} (hm : 0 ≤ m ∧ m ≤ 4096) : SpFit (dropF m n) := by
  unfold dropF SpFit
  split
  · exact ⟨hm, by simp only; omega⟩
  · exact ⟨hm, by simp only; omega⟩
theorem drop_eq {m n : Int} (hm : 0 ≤ m ∧ m ≤ 4096) (hn : -4096 ≤ n ∧ n ≤ 4097) : dropV m n = dropF m n := by
  unfold dropV dropF
  rw [show IntKind.i64.wrap (m + n) = m + n from IntWalk.i64_in _ (by omega), show IntKind.i64.wrap (m - n) = m - n from IntWalk.i64_in _ (by omega)]
theorem spF_drop (L : Ar) (s : List Int) : spF dropV L s = spF dropF L s := by
  unfold spF
  split
  · rename_i h
    have hb := (spS_bd (spN_ok h).1).2
    refine List.ext_getElem (by simp) (fun i h1 h2 => ?_)
    rw [List.getElem_zipWith, List.getElem_zipWith]
    refine drop_eq (hb _ (List.getElem_mem _)) ?_
    unfold rsS
    rw [List.getElem_map]
    exact len_bd _
  · rfl
theorem wiW_ok {l : List Spn} (h : (wiW l).n = 0) : shB (wiW l).s = true ∧ ((wiW l).g.length : Int) = prodL (wiW l).s := by
  unfold wiW wiG at h ⊢
  obtain ⟨h1, h2, h3⟩ := limW_ok h
  rw [h3]
  exact ⟨h1, h2⟩
theorem tkW_ok {L : Ar} {s : List Int} (h : (tkW L s).n = 0) : shB (tkW L s).s = true ∧ ((tkW L s).g.length : Int) = prodL (tkW L s).s := by
  unfold tkW at h ⊢
  split at h
  · rename_i q
    rw [if_pos q]
    exact wiW_ok h
  · rename_i q
    exact absurd h q
theorem drW_ok {L : Ar} {s : List Int} (h : (drW L s).n = 0) : shB (drW L s).s = true ∧ ((drW L s).g.length : Int) = prodL (drW L s).s := by
  unfold drW at h ⊢
  split at h
  · rename_i q
    rw [if_pos q]
    exact wiW_ok h
  · rename_i q
    exact absurd h q
set_option maxRecDepth 100000 in
set_option maxHeartbeats 2000000 in
theorem takeway_any (u v : Value) (L : Ar) (s : List Int) (w : World) (hL : Ara w u L) (hS : Ls w v s) (hle : L.e.length ≤ 1000000) : Calls Try.prog 15 #[u, v] w (GaveW w (tkW L s)) := by
  have hW : tkW L s = if spN L s = 0 then wiW (spF takeF L s) else noW (spN L s) := rfl
  have hL' := hL
  obtain ⟨k, t, e⟩ := L
  obtain ⟨vt, ve, rfl, ht, he⟩ := hL
  simp only at ht he hle
  obtain ⟨ta, ct, rfl, _⟩ := ht.form
  obtain ⟨ae, ce, rfl, _⟩ := he.form
  obtain ⟨as_, cs, rfl, _⟩ := hS.form
  have hC0 := ((Chg.refl (fun _ => False) w).alloc (.cells #[.int .i64 k, .slice ta t.length ct, .slice ae e.length ce] 25)).alloc (.cells #[.slice none 0 0, .nilFunc] 31)
  have z0 := new_cell (w.alloc (.cells #[.int .i64 k, .slice ta t.length ct, .slice ae e.length ce] 25)) #[.slice none 0 0, .nilFunc] 31 (i := 0) rfl
  have z1 := new_cell (w.alloc (.cells #[.int .i64 k, .slice ta t.length ct, .slice ae e.length ce] 25)) #[.slice none 0 0, .nilFunc] 31 (i := 1) rfl
  have f0 := new_frozen (w.alloc (.cells #[.int .i64 k, .slice ta t.length ct, .slice ae e.length ce] 25)) #[.slice none 0 0, .nilFunc] 31 0
  have f1 := new_frozen (w.alloc (.cells #[.int .i64 k, .slice ta t.length ct, .slice ae e.length ce] 25)) #[.slice none 0 0, .nilFunc] 31 1
  rw [World.size_alloc] at z0 z1 f0 f1
  obtain ⟨y0, y1, y2⟩ := cell_two w (.int .i64 k) (.slice ta t.length ct) (.slice ae e.length ce) 25
  replace y0 := alloc_cell y0 (.cells #[.slice none 0 0, .nilFunc] 31)
  replace y1 := alloc_cell y1 (.cells #[.slice none 0 0, .nilFunc] 31)
  replace y2 := alloc_cell y2 (.cells #[.slice none 0 0, .nilFunc] 31)
  have hsp := spans_any 65 takeF _ _ ⟨k, t, e⟩ s _ (hL'.fr hC0) (hS.fr hC0) hle (fun m n w' h => takenV_any m n w' h) (enters_of Try.func65 (by kernel_rfl) rfl)
  have hfit : ∀ x ∈ spF takeF ⟨k, t, e⟩ s, SpFit x := fun x hx => by
    obtain ⟨m, n, rfl, h1, h2⟩ := spF_mem hx
    exact fit_take h1
  have hlen : spN ⟨k, t, e⟩ s = 0 → (spF takeF ⟨k, t, e⟩ s).length ≤ 4 := fun h => by rw [spF_len h]; exact (spS_bd (spN_ok h).1).1
  rw [hW]
  have HFIT := Lib.hid hfit
  have HLEN := Lib.hid hlen
  have HC0 := Lib.hid hC0
  generalize spF takeF ⟨k, t, e⟩ s = F at *
  generalize spN ⟨k, t, e⟩ s = N at *
  obtain ⟨R, hR⟩ : ∃ R, (if N = 0 then wiW F else noW N) = R := ⟨_, rfl⟩
  rw [hR]
  have HR := Lib.hid hR
  clear hR hW hC0 hL' ht he hS hle hfit hlen
  go_enter Try.func15, Try.ntmps15
  go_wp2_with fail
  refine hsp.mono ?_
  clear hsp
  rintro e9 w2 ⟨v2, rfl, ho2, hC2⟩
  obtain ⟨a2, l2, c2, rfl, hl2⟩ := owns_name (show World.ownsRow _ _ _ _ _ _ _ from ho2)
  replace f0 := hC2.frozen z0 f0 id
  replace f1 := hC2.frozen z1 f1 id
  replace z0 := hC2.cell z0 id
  replace z1 := hC2.cell z1 id
  replace HC0 := Lib.hid (HC0.out.tr hC2)
  have hsz : w.heap.size + 1 < w2.heap.size := cell_lt z0
  by_cases hN : N = 0
  · subst hN
    have hR := HR.out
    rw [if_pos rfl] at hR
    subst hR
    have HSZ := Lib.hid hsz
    have hwi := mwithin_any _ F w2 (Spns.of_owns ho2) (HLEN.out rfl) HFIT.out (fun q hq => (ho2.lt q hq).2)
    have HOL := Lib.hid (show ∀ q, (Value.slice a2 l2 c2).ownBlock = some q → w.heap.size + 1 < q from fun q hq => by have := (ho2.lt q hq).1; simp at this; omega)
    clear hC2 ho2 hsz y0 y1 y2
    go_wp2_with fail
    refine hwi.mono ?_
    clear hwi
    rintro e9 w9 ⟨v9, D9, rfl, hW9, hD9, hC9⟩
    obtain ⟨V0, V1, rfl, hv0, hv1⟩ := mway_agg hW9
    have st0 := fun (a : Addr) (m : Mode) (w : World) => run_store Try.prog w a V0 m hv0
    have st1 := fun (a : Addr) (m : Mode) (w : World) => run_store Try.prog w a V1 m hv1
    replace f0 := hC9.frozen z0 f0 id
    replace f1 := hC9.frozen z1 f1 id
    replace z0 := hC9.cell z0 id
    replace z1 := hC9.cell z1 id
    obtain ⟨g0, g1⟩ := mset2 V0 V1 z0 z1
    have HW9 := Lib.hid hW9
    have HD9 := Lib.hid hD9
    have HC9 := Lib.hid (HC0.out.tr hC9)
    clear hW9 hD9 hC9
    go_wp2
    simp [bodyPost, results, Try.results15, go_sem, g0, g1]
    have hdd : ∀ k, D9 k → w.heap.size + 1 < k := fun k hk => by
      rcases HD9.out k hk with h | h
      · exact HOL.out k h
      · have := HSZ.out
        omega
    exact mway_store (x := w.heap.size) HW9.out (fun k hk => .inr (by have := hdd k hk; omega)) (Nat.le_refl _) (Nat.le_succ _) (fun hk => absurd (hdd _ hk) (Nat.lt_irrefl _)) HC9.out rfl
  · have hR := HR.out
    rw [if_neg hN] at hR
    subst hR
    have b1 : (N != 0) = true := bne_iff_ne.2 hN
    have HN := Lib.hid hN
    clear hC2 ho2 hN
    obtain ⟨g0, g1⟩ := mset2 (.slice none 0 0) .nilFunc z0 z1
    go_wp2
    simp [bodyPost, results, Try.results15, go_sem, g0, g1]
    exact mway_no HN.out (Nat.le_succ _) HC0.out
set_option maxRecDepth 100000 in
set_option maxHeartbeats 2000000 in
theorem dropway_any (u v : Value) (L : Ar) (s : List Int) (w : World) (hL : Ara w u L) (hS : Ls w v s) (hle : L.e.length ≤ 1000000) : Calls Try.prog 16 #[u, v] w (GaveW w (drW L s)) := by
  have hW : drW L s = if spN L s = 0 then wiW (spF dropV L s) else noW (spN L s) := by rw [spF_drop]; rfl
  have hL' := hL
  obtain ⟨k, t, e⟩ := L
  obtain ⟨vt, ve, rfl, ht, he⟩ := hL
  simp only at ht he hle
  obtain ⟨ta, ct, rfl, _⟩ := ht.form
  obtain ⟨ae, ce, rfl, _⟩ := he.form
  obtain ⟨as_, cs, rfl, _⟩ := hS.form
  have hC0 := ((Chg.refl (fun _ => False) w).alloc (.cells #[.int .i64 k, .slice ta t.length ct, .slice ae e.length ce] 25)).alloc (.cells #[.slice none 0 0, .nilFunc] 31)
  have z0 := new_cell (w.alloc (.cells #[.int .i64 k, .slice ta t.length ct, .slice ae e.length ce] 25)) #[.slice none 0 0, .nilFunc] 31 (i := 0) rfl
  have z1 := new_cell (w.alloc (.cells #[.int .i64 k, .slice ta t.length ct, .slice ae e.length ce] 25)) #[.slice none 0 0, .nilFunc] 31 (i := 1) rfl
  have f0 := new_frozen (w.alloc (.cells #[.int .i64 k, .slice ta t.length ct, .slice ae e.length ce] 25)) #[.slice none 0 0, .nilFunc] 31 0
  have f1 := new_frozen (w.alloc (.cells #[.int .i64 k, .slice ta t.length ct, .slice ae e.length ce] 25)) #[.slice none 0 0, .nilFunc] 31 1
  rw [World.size_alloc] at z0 z1 f0 f1
  obtain ⟨y0, y1, y2⟩ := cell_two w (.int .i64 k) (.slice ta t.length ct) (.slice ae e.length ce) 25
  replace y0 := alloc_cell y0 (.cells #[.slice none 0 0, .nilFunc] 31)
  replace y1 := alloc_cell y1 (.cells #[.slice none 0 0, .nilFunc] 31)
  replace y2 := alloc_cell y2 (.cells #[.slice none 0 0, .nilFunc] 31)
  have hsp := spans_any 67 dropV _ _ ⟨k, t, e⟩ s _ (hL'.fr hC0) (hS.fr hC0) hle (fun m n w' h => droppedV_any m n w' h) (enters_of Try.func67 (by kernel_rfl) rfl)
  have hfit : ∀ x ∈ spF dropV ⟨k, t, e⟩ s, SpFit x := fun x hx => by
    obtain ⟨m, n, rfl, h1, h2⟩ := spF_mem hx
    rw [drop_eq h1 h2]; exact fit_drop h1
  have hlen : spN ⟨k, t, e⟩ s = 0 → (spF dropV ⟨k, t, e⟩ s).length ≤ 4 := fun h => by rw [spF_len h]; exact (spS_bd (spN_ok h).1).1
  rw [hW]
  have HFIT := Lib.hid hfit
  have HLEN := Lib.hid hlen
  have HC0 := Lib.hid hC0
  generalize spF dropV ⟨k, t, e⟩ s = F at *
  generalize spN ⟨k, t, e⟩ s = N at *
  obtain ⟨R, hR⟩ : ∃ R, (if N = 0 then wiW F else noW N) = R := ⟨_, rfl⟩
  rw [hR]
  have HR := Lib.hid hR
  clear hR hW hC0 hL' ht he hS hle hfit hlen
  go_enter Try.func16, Try.ntmps16
  go_wp2_with fail
  refine hsp.mono ?_
  clear hsp
  rintro e9 w2 ⟨v2, rfl, ho2, hC2⟩
  obtain ⟨a2, l2, c2, rfl, hl2⟩ := owns_name (show World.ownsRow _ _ _ _ _ _ _ from ho2)
  replace f0 := hC2.frozen z0 f0 id
  replace f1 := hC2.frozen z1 f1 id
  replace z0 := hC2.cell z0 id
  replace z1 := hC2.cell z1 id
  replace HC0 := Lib.hid (HC0.out.tr hC2)
  have hsz : w.heap.size + 1 < w2.heap.size := cell_lt z0
  by_cases hN : N = 0
  · subst hN
    have hR := HR.out
    rw [if_pos rfl] at hR
    subst hR
    have HSZ := Lib.hid hsz
    have hwi := mwithin_any _ F w2 (Spns.of_owns ho2) (HLEN.out rfl) HFIT.out (fun q hq => (ho2.lt q hq).2)
    have HOL := Lib.hid (show ∀ q, (Value.slice a2 l2 c2).ownBlock = some q → w.heap.size + 1 < q from fun q hq => by have := (ho2.lt q hq).1; simp at this; omega)
    clear hC2 ho2 hsz y0 y1 y2
    go_wp2_with fail
    refine hwi.mono ?_
    clear hwi
    rintro e9 w9 ⟨v9, D9, rfl, hW9, hD9, hC9⟩
    obtain ⟨V0, V1, rfl, hv0, hv1⟩ := mway_agg hW9
    have st0 := fun (a : Addr) (m : Mode) (w : World) => run_store Try.prog w a V0 m hv0
    have st1 := fun (a : Addr) (m : Mode) (w : World) => run_store Try.prog w a V1 m hv1
    replace f0 := hC9.frozen z0 f0 id
    replace f1 := hC9.frozen z1 f1 id
    replace z0 := hC9.cell z0 id
    replace z1 := hC9.cell z1 id
    obtain ⟨g0, g1⟩ := mset2 V0 V1 z0 z1
    have HW9 := Lib.hid hW9
    have HD9 := Lib.hid hD9
    have HC9 := Lib.hid (HC0.out.tr hC9)
    clear hW9 hD9 hC9
    go_wp2
    simp [bodyPost, results, Try.results16, go_sem, g0, g1]
    have hdd : ∀ k, D9 k → w.heap.size + 1 < k := fun k hk => by
      rcases HD9.out k hk with h | h
      · exact HOL.out k h
      · have := HSZ.out
        omega
    exact mway_store (x := w.heap.size) HW9.out (fun k hk => .inr (by have := hdd k hk; omega)) (Nat.le_refl _) (Nat.le_succ _) (fun hk => absurd (hdd _ hk) (Nat.lt_irrefl _)) HC9.out rfl
  · have hR := HR.out
    rw [if_neg hN] at hR
    subst hR
    have b1 : (N != 0) = true := bne_iff_ne.2 hN
    have HN := Lib.hid hN
    clear hC2 ho2 hN
    obtain ⟨g0, g1⟩ := mset2 (.slice none 0 0) .nilFunc z0 z1
    go_wp2
    simp [bodyPost, results, Try.results16, go_sem, g0, g1]
    exact mway_no HN.out (Nat.le_succ _) HC0.out
set_option maxRecDepth 100000 in
set_option maxHeartbeats 1000000 in
theorem take_any (u v : Value) (L A : Ar) (w : World) (hL : Ara w u L) (hA : Ara w v A) (hle : L.e.length ≤ 1000000) (hle2 : A.e.length ≤ 1000000) : Calls Try.prog 26 #[u, v] w (GaveAE w (mgA (tkW L A.s) L A) (mgN (tkW L A.s) L A)) := by
  have hL' := hL
  have hA' := hA
  obtain ⟨vt, ve, rfl, ht, he⟩ := hL
  obtain ⟨vt2, ve2, rfl, ht2, he2⟩ := hA
  obtain ⟨ta, ct, rfl, _⟩ := ht.form
  obtain ⟨ae, ce, rfl, _⟩ := he.form
  obtain ⟨tb, cb, rfl, _⟩ := ht2.form
  obtain ⟨be, de, rfl, _⟩ := he2.form
  have hC0 := (((Chg.refl (fun _ => False) w).alloc (.cells #[.int .i64 L.k, .slice ta L.s.length ct, .slice ae L.e.length ce] 25)).alloc (.cells #[.int .i64 A.k, .slice tb A.s.length cb, .slice be A.e.length de] 25)).alloc (.cells #[.int .i64 0, .slice none 0 0, .slice none 0 0] 25)
  have hB0 := Bx.new ((w.alloc (.cells #[.int .i64 L.k, .slice ta L.s.length ct, .slice ae L.e.length ce] 25)).alloc (.cells #[.int .i64 A.k, .slice tb A.s.length cb, .slice be A.e.length de] 25)) (.int .i64 0) (.slice none 0 0) (.slice none 0 0) 25
  rw [World.size_alloc, World.size_alloc] at hB0
  have h1 := mgone_any 15 (fun _ _ => rfl) (tkW L A.s) _ _ L A _ (hL'.fr hC0) (hA'.fr hC0) hle hle2 (fun u' v' w' _ a b => takeway_any u' v' L A.s w' a b hle) (fun h => tkW_ok h)
  have HC := Lib.hid hC0
  generalize mgA (tkW L A.s) L A = AA at *
  generalize mgN (tkW L A.s) L A = NN at *
  clear hL' hA' ht he ht2 he2 hC0
  go_enter Try.func26, Try.ntmps26
  go_wp2_with fail
  refine h1.mono ?_
  clear h1
  rintro e9 w1 ⟨v1, rfl, ho1, hC1⟩
  obtain ⟨a5, c5, a6, c6, rfl, q1, q2⟩ := ara_new ho1
  obtain ⟨z0, z1, z2, f0, f1, f2⟩ := hB0.fr hC1
  obtain ⟨⟨g0, g1⟩, g2⟩ := set3_cells (.int .i64 AA.k) (.slice a5 AA.s.length c5) (.slice a6 AA.e.length c6) z0 z1 z2
  have HL := Lib.hid hB0.lt
  have HC1 := Lib.hid (HC.out.tr hC1)
  clear hC1 ho1 hB0
  go_wp2
  simp [bodyPost, results, Try.results26, go_sem, g0, g1, g2]
  show GaveAE w ⟨AA.k, AA.s, AA.e⟩ NN _ _
  exact leaveAE q1 q2 (by omega) HL.out HL.out HC1.out
set_option maxRecDepth 100000 in
set_option maxHeartbeats 1000000 in
theorem drop_any (u v : Value) (L A : Ar) (w : World) (hL : Ara w u L) (hA : Ara w v A) (hle : L.e.length ≤ 1000000) (hle2 : A.e.length ≤ 1000000) : Calls Try.prog 28 #[u, v] w (GaveAE w (mgA (drW L A.s) L A) (mgN (drW L A.s) L A)) := by
  have hL' := hL
  have hA' := hA
  obtain ⟨vt, ve, rfl, ht, he⟩ := hL
  obtain ⟨vt2, ve2, rfl, ht2, he2⟩ := hA
  obtain ⟨ta, ct, rfl, _⟩ := ht.form
  obtain ⟨ae, ce, rfl, _⟩ := he.form
  obtain ⟨tb, cb, rfl, _⟩ := ht2.form
  obtain ⟨be, de, rfl, _⟩ := he2.form
  have hC0 := (((Chg.refl (fun _ => False) w).alloc (.cells #[.int .i64 L.k, .slice ta L.s.length ct, .slice ae L.e.length ce] 25)).alloc (.cells #[.int .i64 A.k, .slice tb A.s.length cb, .slice be A.e.length de] 25)).alloc (.cells #[.int .i64 0, .slice none 0 0, .slice none 0 0] 25)
  have hB0 := Bx.new ((w.alloc (.cells #[.int .i64 L.k, .slice ta L.s.length ct, .slice ae L.e.length ce] 25)).alloc (.cells #[.int .i64 A.k, .slice tb A.s.length cb, .slice be A.e.length de] 25)) (.int .i64 0) (.slice none 0 0) (.slice none 0 0) 25
  rw [World.size_alloc, World.size_alloc] at hB0
  have h1 := mgone_any 16 (fun _ _ => rfl) (drW L A.s) _ _ L A _ (hL'.fr hC0) (hA'.fr hC0) hle hle2 (fun u' v' w' _ a b => dropway_any u' v' L A.s w' a b hle) (fun h => drW_ok h)
  have HC := Lib.hid hC0
  generalize mgA (drW L A.s) L A = AA at *
  generalize mgN (drW L A.s) L A = NN at *
  clear hL' hA' ht he ht2 he2 hC0
  go_enter Try.func28, Try.ntmps28
  go_wp2_with fail
  refine h1.mono ?_
  clear h1
  rintro e9 w1 ⟨v1, rfl, ho1, hC1⟩
  obtain ⟨a5, c5, a6, c6, rfl, q1, q2⟩ := ara_new ho1
  obtain ⟨z0, z1, z2, f0, f1, f2⟩ := hB0.fr hC1
  obtain ⟨⟨g0, g1⟩, g2⟩ := set3_cells (.int .i64 AA.k) (.slice a5 AA.s.length c5) (.slice a6 AA.e.length c6) z0 z1 z2
  have HL := Lib.hid hB0.lt
  have HC1 := Lib.hid (HC.out.tr hC1)
  clear hC1 ho1 hB0
  go_wp2
  simp [bodyPost, results, Try.results28, go_sem, g0, g1, g2]
  show GaveAE w ⟨AA.k, AA.s, AA.e⟩ NN _ _
  exact leaveAE q1 q2 (by omega) HL.out HL.out HC1.out
end Go.Proofs.Ytceooipljhjpaaa
