/- pick: which axes may be; axes of its own. -/
import Derived.Test.YtnjnajbdpaaikaaPkO
import Derived.Test.YtnjnajbdpaaikaaPkR
namespace Go.Proofs.Ytnjnajbdpaaikaa
open Go.RowKit Go.Shelf

/-- An axis' value. -/
def AxVal (W : World) (v : Value) (x : Ax) : Prop := ∃ vs ve, v = .agg #[.bool x.all, .int .i64 x.a.k, vs, ve] ∧ Ls W vs x.a.s ∧ Ls W ve x.a.e
theorem AxVal.fr {w w' : World} {v : Value} {x : Ax} (h : AxVal w v x) (hC : Chg (fun _ => False) w w') : AxVal w' v x := by
  obtain ⟨vs, ve, e, h1, h2⟩ := h
  exact ⟨vs, ve, e, h1.fr hC, h2.fr hC⟩
/-- One of the program's axes. -/
def PxVal (W : World) (v : Value) (x : Px) : Prop := ∃ ve, v = .agg #[.int .i64 x.l, .bool x.all, ve] ∧ Ls W ve x.e
theorem PxVal.fr {w w' : World} {v : Value} {x : Px} (h : PxVal w v x) (hC : Chg (fun _ => False) w w') : PxVal w' v x := by
  obtain ⟨ve, e, h1⟩ := h
  exact ⟨ve, e, h1.fr hC⟩
def PxAt (W : World) (b o : Nat) (x : Px) : Prop := ∃ ve, (W.cell? ⟨b, o, none⟩ = some (.int .i64 x.l) ∧ W.cell? ⟨b, o + 1, none⟩ = some (.bool x.all) ∧ W.cell? ⟨b, o + 2, none⟩ = some ve) ∧ Ls W ve x.e
/-- The slice value v reads as the program's axes L. -/
structure Pxs (W : World) (v : Value) (L : List Px) : Prop where
  form : ∃ ao c, v = .slice ao L.length c
  cells : ∀ j (h : j < L.length), ∃ b o c, v = .slice (some ⟨b, o, none⟩) L.length c ∧ PxAt W b (o + j * 3) L[j]
theorem PxAt.fr {w w' : World} {b o : Nat} {x : Px} (h : PxAt w b o x) (hC : Chg (fun _ => False) w w') : PxAt w' b o x := by
  obtain ⟨ve, ⟨c0, c1, c2⟩, h2⟩ := h
  exact ⟨ve, ⟨hC.cell c0 id, hC.cell c1 id, hC.cell c2 id⟩, h2.fr hC⟩
theorem Pxs.fr {w w' : World} {v : Value} {L : List Px} (h : Pxs w v L) (hC : Chg (fun _ => False) w w') : Pxs w' v L :=
  ⟨h.form, fun j hj => by obtain ⟨b, o, c, e, hx⟩ := h.cells j hj; exact ⟨b, o, c, e, hx.fr hC⟩⟩
set_option maxHeartbeats 400000 in
theorem odd1_any (v : Value) (x : Ax) (w : World) (hx : AxVal w v x) (hl : x.a.e.length ≤ 1000000) : Calls Try.prog 64 (#[v] ++ #[]) w (GaveBo w (!axB x)) := by
  obtain ⟨vs, ve, rfl, hs, he⟩ := hx
  have hck := fun w' (h : Chg (fun _ => False) w w') => check_any (.agg #[.int .i64 x.a.k, vs, ve]) x.a w' ⟨vs, ve, rfl, hs.fr h, he.fr h⟩ hl
  obtain ⟨sa, cs, rfl, _⟩ := hs.form
  obtain ⟨ea, ce, rfl, _⟩ := he.form
  have hC0 := (Chg.refl (fun _ => False) w).alloc (.cells #[.bool x.all, .int .i64 x.a.k, .slice sa x.a.s.length cs, .slice ea x.a.e.length ce] 39)
  have c0 := new_cell w #[.bool x.all, .int .i64 x.a.k, .slice sa x.a.s.length cs, .slice ea x.a.e.length ce] 39 (i := 0) rfl
  have c1 := new_cell w #[.bool x.all, .int .i64 x.a.k, .slice sa x.a.s.length cs, .slice ea x.a.e.length ce] 39 (i := 1) rfl
  have c2 := new_cell w #[.bool x.all, .int .i64 x.a.k, .slice sa x.a.s.length cs, .slice ea x.a.e.length ce] 39 (i := 2) rfl
  have c3 := new_cell w #[.bool x.all, .int .i64 x.a.k, .slice sa x.a.s.length cs, .slice ea x.a.e.length ce] 39 (i := 3) rfl
  have hck1 := hck _ hC0
  clear hs he hck
  cases ha : x.all with
  | true =>
    have HR := Lib.hid (show (!axB x) = false by unfold axB; rw [ha]; rfl)
    rw [ha] at hC0 c0 c1 c2 c3
    clear ha hck1
    go_enter Try.func64, Try.ntmps64
    go_wp2
    go_ret
    exact ⟨by rw [HR.out]; rfl, hC0⟩
  | false =>
    rw [ha] at hC0 c0 c1 c2 c3 hck1
    cases hc : chkB x.a with
    | true =>
      have HR := Lib.hid (show (!axB x) = false by unfold axB; rw [hc, Bool.or_true]; rfl)
      rw [show chkE x.a = 0 by unfold chkE; rw [hc]; rfl] at hck1
      clear ha hc
      go_enter Try.func64, Try.ntmps64
      go_wp2_with fail
      refine hck1.mono ?_
      clear hck1
      rintro e9 w1 ⟨rfl, hC1⟩
      go_wp2
      go_ret
      exact ⟨by rw [HR.out]; rfl, hC0.tr hC1⟩
    | false =>
      have HR := Lib.hid (show (!axB x) = true by unfold axB; rw [hc, ha]; rfl)
      rw [show chkE x.a = 110 by unfold chkE; rw [hc]; rfl] at hck1
      clear ha hc
      go_enter Try.func64, Try.ntmps64
      go_wp2_with fail
      refine hck1.mono ?_
      clear hck1
      rintro e9 w1 ⟨rfl, hC1⟩
      go_wp2
      go_ret
      exact ⟨by rw [HR.out]; rfl, hC0.tr hC1⟩
set_option maxHeartbeats 1000000 in
theorem axf_any (p : Ax → Bool) (v : Value) (L : List Ax) (w : World) (hS : Axs w v L) (hl : L.length ≤ 1000000) (eg : ∀ args w, (callFunc 64 args).run Try.prog w = .ok (.enter 64 args) w) (hp : ∀ x ∈ L, ∀ u w', Chg (fun _ => False) w w' → AxVal w' u x → Calls Try.prog 64 (#[u] ++ #[]) w' (GaveBo w' (p x))) :
    Calls Try.prog 92 #[v, .func (.func 64) #[] #[]] w (fun e w' => ∃ r : Int, e = .returned (.int .i64 r) ∧ Hid (decide (0 ≤ r) = L.any p) ∧ Chg (fun _ => False) w w') := by
  obtain ⟨ao, c, hv⟩ : ∃ ao c, v = .slice ao L.length c := by obtain ⟨ao, c, e⟩ := hS.form; exact ⟨ao, c, e.1⟩
  subst hv
  have HS := Lib.hid hS
  have HP := Lib.hid hp
  clear hS hp
  go_enter Try.func92, Try.ntmps92
  go_wp2
  go_loopw [8] (fun i wr => ∃ k : Nat, k ≤ L.length ∧ i = .int .i64 k ∧ (L.take k).any p = false ∧ Chg (fun _ => False) w wr) (fun i _ => L.length - (intOf i).toNat)
  case atStart => exact ⟨0, Nat.zero_le _, rfl, rfl, Chg.refl _ _⟩
  case round =>
    obtain ⟨k, hk, rfl, hbad, hC⟩ := hrel
    have HB := Lib.hid hbad
    clear hbad
    by_cases hlt : k < L.length
    · obtain ⟨b, o, c', e1, hx⟩ := (HS.out.fr hC).cells k hlt
      injection e1 with e1 e2 e3
      clear e2 e3
      subst e1
      have hkw : IntKind.i64.wrap ((k : Int) + 1) = (k : Int) + 1 := IntWalk.i64_in _ (by omega)
      obtain ⟨x, hxe⟩ : ∃ x, L[k] = x := ⟨_, rfl⟩
      have HT := Lib.hid (show L.take (k + 1) = L.take k ++ [x] by rw [List.take_succ_eq_append_getElem hlt, hxe])
      have hm : x ∈ L := by rw [← hxe]; exact List.getElem_mem hlt
      have HM := Lib.hid hm
      rw [hxe] at hx
      have hk2 : (k : Int) < (L.length : Int) := by omega
      obtain ⟨vs, ve, ⟨c0, c1, c2, c3⟩, h1, h2⟩ := hx; obtain ⟨sa, cs, rfl, _⟩ := h1.form; obtain ⟨ea, ce, rfl, _⟩ := h2.form; have hlet := HP.out x hm (.agg #[.bool x.all, .int .i64 x.a.k, .slice sa x.a.s.length cs, .slice ea x.a.e.length ce]) _ hC ⟨_, _, rfl, h1, h2⟩; clear h1 h2
      clear hxe hm
      cases hb : p x with
      | true =>
        rw [hb] at hlet
        have HBX := Lib.hid hb
        clear hb
        go_wp2_with fail
        refine hlet.mono ?_
        clear hlet
        rintro e w1 ⟨rfl, hC1⟩
        go_wp2
        go_ret
        refine ⟨k, rfl, ?_, hC.tr hC1⟩
        show decide (0 ≤ (k : Int)) = L.any p
        rw [decide_eq_true (by omega), eq_comm, List.any_eq_true]
        exact ⟨x, HM.out, HBX.out⟩
      | false =>
        rw [hb] at hlet
        have HBX := Lib.hid hb
        clear hb
        go_wp2_with fail
        refine hlet.mono ?_
        clear hlet
        rintro e w1 ⟨rfl, hC1⟩
        go_wp2
        go_roundw
        case rel => exact ⟨k + 1, hlt, by go_num, by rw [HT.out, List.any_append, HB.out]; simp [HBX.out], hC.tr hC1⟩
        case measure => exact fit_meas k L.length hlt
    · obtain rfl : k = L.length := by omega
      go_wp2
      go_ret
      refine ⟨-1, rfl, ?_, hC⟩
      have := HB.out
      rw [List.take_length] at this
      show decide (0 ≤ (-1 : Int)) = L.any p
      rw [this]
      rfl
set_option maxHeartbeats 400000 in
theorem axfc_any (p : Ax → Bool) (v : Value) (L : List Ax) (w : World) (hS : Axs w v L) (hl : L.length ≤ 1000000) (eg : ∀ args w, (callFunc 64 args).run Try.prog w = .ok (.enter 64 args) w) (hp : ∀ x ∈ L, ∀ u w', Chg (fun _ => False) w w' → AxVal w' u x → Calls Try.prog 64 (#[u] ++ #[]) w' (GaveBo w' (p x))) :
    Calls Try.prog 65 #[v, .func (.func 64) #[] #[]] w (GaveBo w (L.any p)) := by
  have h := axf_any p v L w hS hl eg hp
  clear eg hp
  go_enter Try.func65, Try.ntmps65
  go_wp2_with fail
  refine h.mono ?_
  rintro e w' ⟨r, rfl, HR, hC⟩
  go_wp2
  go_ret
  exact ⟨by rw [← HR.out]; rfl, hC⟩
theorem right1_any (n l : Int) (b : Nat) (w : World) (h : w.cell? ⟨b, 0, none⟩ = some (.int .i64 l)) : Calls Try.prog 94 (#[.int .i64 n] ++ #[.pointer (some ⟨b, 0, none⟩)]) w (GaveBo w (decide (n < 1) || decide (n > l))) := by
  by_cases h1 : n < 1
  · have d1 : decide (n < 1) = true := decide_eq_true h1
    rw [d1]
    clear h1
    go_enter Try.func94, Try.ntmps94
    go_wp2
    go_ret
    exact ⟨rfl, Chg.refl _ _⟩
  · have d1 : decide (n < 1) = false := decide_eq_false h1
    rw [d1]
    clear h1
    go_enter Try.func94, Try.ntmps94
    go_wp2
    go_ret
    exact ⟨by simp, Chg.refl _ _⟩
def rgtP (x : Px) : Bool := x.all || !x.e.any (fun n => decide (n < 1) || decide (n > x.l))
set_option maxHeartbeats 400000 in
theorem right_any (v : Value) (x : Px) (w : World) (hx : PxVal w v x) (hl : x.e.length ≤ 1000000) : Calls Try.prog 69 #[v] w (GaveBo w (rgtP x)) := by
  obtain ⟨ve, rfl, he⟩ := hx
  obtain ⟨ea, ce, rfl, _⟩ := he.form
  have hC0 := (Chg.refl (fun _ => False) w).alloc (.cells #[.int .i64 x.l, .bool x.all, .slice ea x.e.length ce] 102)
  obtain ⟨c0, c1, c2⟩ := cell_two w (.int .i64 x.l) (.bool x.all) (.slice ea x.e.length ce) 102
  have hco := containsF_any 94 #[.pointer (some ⟨w.heap.size, 0, none⟩)] (enters_of Try.func94 (by kernel_rfl) rfl) (fun n => decide (n < 1) || decide (n > x.l)) _ x.e _ (he.fr hC0) hl (fun n _ w' h => right1_any n x.l w.heap.size w' (h.cell c0 id))
  clear he
  cases ha : x.all with
  | true =>
    have HR := Lib.hid (show rgtP x = true by unfold rgtP; rw [ha]; rfl)
    rw [ha] at hC0 c0 c1 c2
    clear ha hco
    go_enter Try.func69, Try.ntmps69
    go_wp2
    go_ret
    exact ⟨by rw [HR.out]; rfl, hC0⟩
  | false =>
    rw [ha] at hC0 c0 c1 c2 hco
    have HR := Lib.hid (show rgtP x = !x.e.any (fun n => decide (n < 1) || decide (n > x.l)) by unfold rgtP; rw [ha]; rfl)
    generalize x.e.any (fun n => decide (n < 1) || decide (n > x.l)) = B at *
    clear ha
    go_enter Try.func69, Try.ntmps69
    go_wp2_with fail
    refine hco.mono ?_
    clear hco
    rintro e9 w1 ⟨rfl, hC1⟩
    go_wp2
    go_ret
    exact ⟨by rw [HR.out]; rfl, hC0.tr hC1⟩
set_option maxHeartbeats 400000 in
theorem wrong_any (v : Value) (x : Px) (w : World) (hx : PxVal w v x) (hl : x.e.length ≤ 1000000) : Calls Try.prog 68 (#[v] ++ #[]) w (GaveBo w (!rgtP x)) := by
  have hr := fun w' (h : Chg (fun _ => False) w w') => right_any v x w' (hx.fr h) hl
  obtain ⟨ve, rfl, he⟩ := hx
  obtain ⟨ea, ce, rfl, _⟩ := he.form
  have hC0 := (Chg.refl (fun _ => False) w).alloc (.cells #[.int .i64 x.l, .bool x.all, .slice ea x.e.length ce] 102)
  have hr1 := hr _ hC0
  generalize rgtP x = B at *
  clear he hr
  go_enter Try.func68, Try.ntmps68
  go_wp2_with fail
  refine hr1.mono ?_
  clear hr1
  rintro e9 w1 ⟨rfl, hC1⟩
  go_wp2
  go_ret
  exact ⟨rfl, hC0.tr hC1⟩
set_option maxHeartbeats 1000000 in
theorem pxf_any (p : Px → Bool) (v : Value) (L : List Px) (w : World) (hS : Pxs w v L) (hl : L.length ≤ 1000000) (eg : ∀ args w, (callFunc 68 args).run Try.prog w = .ok (.enter 68 args) w) (hp : ∀ x ∈ L, ∀ u w', Chg (fun _ => False) w w' → PxVal w' u x → Calls Try.prog 68 (#[u] ++ #[]) w' (GaveBo w' (p x))) :
    Calls Try.prog 93 #[v, .func (.func 68) #[] #[]] w (fun e w' => ∃ r : Int, e = .returned (.int .i64 r) ∧ Hid (decide (0 ≤ r) = L.any p) ∧ Chg (fun _ => False) w w') := by
  obtain ⟨ao, c, hv⟩ : ∃ ao c, v = .slice ao L.length c := by obtain ⟨ao, c, e⟩ := hS.form; exact ⟨ao, c, e⟩
  subst hv
  have HS := Lib.hid hS
  have HP := Lib.hid hp
  clear hS hp
  go_enter Try.func93, Try.ntmps93
  go_wp2
  go_loopw [8] (fun i wr => ∃ k : Nat, k ≤ L.length ∧ i = .int .i64 k ∧ (L.take k).any p = false ∧ Chg (fun _ => False) w wr) (fun i _ => L.length - (intOf i).toNat)
  case atStart => exact ⟨0, Nat.zero_le _, rfl, rfl, Chg.refl _ _⟩
  case round =>
    obtain ⟨k, hk, rfl, hbad, hC⟩ := hrel
    have HB := Lib.hid hbad
    clear hbad
    by_cases hlt : k < L.length
    · obtain ⟨b, o, c', e1, hx⟩ := (HS.out.fr hC).cells k hlt
      injection e1 with e1 e2 e3
      clear e2 e3
      subst e1
      have hkw : IntKind.i64.wrap ((k : Int) + 1) = (k : Int) + 1 := IntWalk.i64_in _ (by omega)
      obtain ⟨x, hxe⟩ : ∃ x, L[k] = x := ⟨_, rfl⟩
      have HT := Lib.hid (show L.take (k + 1) = L.take k ++ [x] by rw [List.take_succ_eq_append_getElem hlt, hxe])
      have hm : x ∈ L := by rw [← hxe]; exact List.getElem_mem hlt
      have HM := Lib.hid hm
      rw [hxe] at hx
      have hk2 : (k : Int) < (L.length : Int) := by omega
      obtain ⟨ve, ⟨c0, c1, c2⟩, h1⟩ := hx; obtain ⟨ea, ce, rfl, _⟩ := h1.form; have hlet := HP.out x hm (.agg #[.int .i64 x.l, .bool x.all, .slice ea x.e.length ce]) _ hC ⟨_, rfl, h1⟩; clear h1
      clear hxe hm
      cases hb : p x with
      | true =>
        rw [hb] at hlet
        have HBX := Lib.hid hb
        clear hb
        go_wp2_with fail
        refine hlet.mono ?_
        clear hlet
        rintro e w1 ⟨rfl, hC1⟩
        go_wp2
        go_ret
        refine ⟨k, rfl, ?_, hC.tr hC1⟩
        show decide (0 ≤ (k : Int)) = L.any p
        rw [decide_eq_true (by omega), eq_comm, List.any_eq_true]
        exact ⟨x, HM.out, HBX.out⟩
      | false =>
        rw [hb] at hlet
        have HBX := Lib.hid hb
        clear hb
        go_wp2_with fail
        refine hlet.mono ?_
        clear hlet
        rintro e w1 ⟨rfl, hC1⟩
        go_wp2
        go_roundw
        case rel => exact ⟨k + 1, hlt, by go_num, by rw [HT.out, List.any_append, HB.out]; simp [HBX.out], hC.tr hC1⟩
        case measure => exact fit_meas k L.length hlt
    · obtain rfl : k = L.length := by omega
      go_wp2
      go_ret
      refine ⟨-1, rfl, ?_, hC⟩
      have := HB.out
      rw [List.take_length] at this
      show decide (0 ≤ (-1 : Int)) = L.any p
      rw [this]
      rfl
set_option maxHeartbeats 400000 in
theorem pxfc_any (p : Px → Bool) (v : Value) (L : List Px) (w : World) (hS : Pxs w v L) (hl : L.length ≤ 1000000) (eg : ∀ args w, (callFunc 68 args).run Try.prog w = .ok (.enter 68 args) w) (hp : ∀ x ∈ L, ∀ u w', Chg (fun _ => False) w w' → PxVal w' u x → Calls Try.prog 68 (#[u] ++ #[]) w' (GaveBo w' (p x))) :
    Calls Try.prog 67 #[v, .func (.func 68) #[] #[]] w (GaveBo w (L.any p)) := by
  have h := pxf_any p v L w hS hl eg hp
  clear eg hp
  go_enter Try.func67, Try.ntmps67
  go_wp2_with fail
  refine h.mono ?_
  rintro e w' ⟨r, rfl, HR, hC⟩
  go_wp2
  go_ret
  exact ⟨by rw [← HR.out]; rfl, hC⟩
theorem odds_ax (v : Value) (L : List Ax) (w : World) (hS : Axs w v L) (hl : L.length ≤ 1000000) (he : ∀ x ∈ L, x.a.e.length ≤ 1000000) : Calls Try.prog 65 #[v, .func (.func 64) #[] #[]] w (GaveBo w (L.any (fun x => !axB x))) :=
  axfc_any (fun x => !axB x) v L w hS hl (enters_of Try.func64 (by kernel_rfl) rfl) (fun x hx u w' _ hu => odd1_any u x w' hu (he x hx))
theorem wrongs_px (v : Value) (L : List Px) (w : World) (hS : Pxs w v L) (hl : L.length ≤ 1000000) (he : ∀ x ∈ L, x.e.length ≤ 1000000) : Calls Try.prog 67 #[v, .func (.func 68) #[] #[]] w (GaveBo w (L.any (fun x => !rgtP x))) :=
  pxfc_any (fun x => !rgtP x) v L w hS hl (enters_of Try.func68 (by kernel_rfl) rfl) (fun x hx u w' _ hu => wrong_any u x w' hu (he x hx))
end Go.Proofs.Ytnjnajbdpaaikaa
