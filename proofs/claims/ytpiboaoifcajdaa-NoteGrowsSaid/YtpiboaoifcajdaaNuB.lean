/- What is done, and how many steps: a log's map, gone through in whatever order. -/
import Derived.Test.YtpiboaoifcajdaaNuA
import Derived.Test.YtpiboaoifcajdaaNtM
import Derived.Maps.RangeWalk
namespace Go.Proofs.Ytpiboaoifcajdaa
open Go.RowKit Go.Shelf Go.WideMaps Go.Maps

/-- A step of a range over a map: a key that is still to come, whatever it is. -/
theorem next_key {H : Type} {P : Program} (w : World) {ops : Array Oper} {rest : List Oper} {o : Oper} {a : Act} {Q : Exit → Act → World → Prop} (hg : o.guard = none) (it : Operand) (hop : o.op = Op.next it false) (k : TypeId) (K : Keyed P k) (R : Value → Option (DataW H × List MemPlace))
    (b r n : Nat) (D : DataW H) (left : Lit → Bool) (cnt : Nat) (hit : a.eval it = .pointer (some ⟨r, 0, none⟩)) (h : w.ranges P k R b r n D left cnt)
    (hDone : (∀ kl, left kl = false) → wpList P ops Q rest (a.put o.dst (.tuple #[.bool false])) w)
    (hMore : ∀ (key v : Value) (kl : Lit) (w' : World) (cnt' : Nat), keyOf P k key = some kl → left kl = true → w'.ranges P k R b r n D (fun z => left z && !z.sameKey kl) cnt' → cnt' < cnt →
      w.grownBy w' (some r) → w'.heap.size = w.heap.size → (Instr.entry (.pointer (some ⟨r, 0, none⟩))).run P w' = .ok (.tuple #[key, v]) w' → wpList P ops Q rest (a.put o.dst (.tuple #[.bool true, key, v])) w') :
    wpList P ops Q (o :: rest) a w := by
  refine wpList_plain hg fun K' hK' => ?_
  unfold Oper.wp
  rcases h.next K o.type with ⟨_, hl, hrun⟩ | ⟨key, v, kl, y, w', cnt', hkey, hlk, hv, hat, hrun, hrg, hlt, hgr, hsz, hen⟩
  · simp [execOp, hop, hit, hrun, Result.andThen]
    exact hK' _ _ (hDone hl)
  · simp [execOp, hop, hit, hrun, Result.andThen]
    exact hK' _ _ (hMore key v kl w' cnt' hkey hlk hrg hlt hgr hsz hen)
/-- The keys that have come. -/
noncomputable def gone (left : Lit → Bool) (q : Int × Int × Int) : Bool := !left (keyL q.1 q.2.1 q.2.2)
theorem kys_ok {l : List Nt} (h : ∀ x ∈ l, x.ok) : ∀ q ∈ kys l, In64 q.1 ∧ In64 q.2.1 ∧ In64 q.2.2 := by
  intro q hq
  obtain ⟨x, hx, rfl⟩ := (kys_mem l q).1 hq
  exact ⟨(h x hx).1, (h x hx).2.1, (h x hx).2.2.1⟩
theorem gone_step {l : List Nt} (h : ∀ x ∈ l, x.ok) {left : Lit → Bool} {q0 : Int × Int × Int} (h0 : q0 ∈ kys l) (hl : left (keyL q0.1 q0.2.1 q0.2.2) = true) :
    gone left q0 = false ∧ gone (fun z => left z && !z.sameKey (keyL q0.1 q0.2.1 q0.2.2)) q0 = true ∧ ∀ q ∈ kys l, q ≠ q0 → gone (fun z => left z && !z.sameKey (keyL q0.1 q0.2.1 q0.2.2)) q = gone left q := by
  have h1 := kys_ok h q0 h0
  have hk := key_lit h1.1 h1.2.1 h1.2.2
  refine ⟨by unfold gone; rw [hl]; rfl, by unfold gone; simp only []; rw [WideAt.sameKey_self hk]; simp, fun q hq hne => ?_⟩
  have h2 := kys_ok h q hq
  have hs : (keyL q.1 q.2.1 q.2.2).sameKey (keyL q0.1 q0.2.1 q0.2.2) = false := by
    cases e : (keyL q.1 q.2.1 q.2.2).sameKey (keyL q0.1 q0.2.1 q0.2.2) with
    | false => rfl
    | true =>
      obtain ⟨e1, e2, e3⟩ := keyL_inj h2.1 h2.2.1 h2.2.2 h1.1 h1.2.1 h1.2.2 (WideAt.sameKey_eq e)
      exact absurd (Prod.ext e1 (Prod.ext e2 e3)) hne
  unfold gone
  simp only []
  rw [hs]
  simp
theorem key_is {l : List Nt} (h : ∀ x ∈ l, x.ok) {key : Value} {kl : Lit} (hk : keyOf Try.prog 80 key = some kl) (hh : Maps.has (fileD l) kl = true) : ∃ q ∈ kys l, key = keyV q.1 q.2.1 q.2.2 ∧ kl = keyL q.1 q.2.1 q.2.2 := by
  obtain ⟨q, hq, e⟩ := has_mem l kl h hh
  have h1 := kys_ok h q hq
  exact ⟨q, hq, place_keyed.inj hk (by rw [e]; exact keyL_of h1.1 h1.2.1 h1.2.2), e⟩
def SaidN (w : World) (n : Int) (e : Ending) (w' : World) : Prop := e = .returned (.int .i64 n) ∧ Chg (fun _ => False) w w'
theorem has_key {l : List Nt} (h : ∀ x ∈ l, x.ok) : ∀ q ∈ kys l, Maps.has (fileD l) (keyL q.1 q.2.1 q.2.2) = true := by
  intro q hq
  have h1 := kys_ok h q hq
  rw [(fileD_look l q.1 q.2.1 q.2.2 h1.1 h1.2.1 h1.2.2 h).1]
  clear h1
  induction l with
  | nil => cases hq
  | cons x r ih =>
    unfold fileOf
    split
    · rfl
    · rename_i hne
      refine ih (fun y hy => h y (List.mem_cons_of_mem _ hy)) ?_
      obtain ⟨y, hy, e⟩ := (kys_mem _ _).1 hq
      rcases List.mem_cons.1 hy with rfl | hy
      · subst e; exact absurd ⟨rfl, rfl, rfl⟩ hne
      · exact (kys_mem _ _).2 ⟨y, hy, e⟩
theorem cp_none {l : List Nt} (h : ∀ x ∈ l, x.ok) (st : Int) : (kys l).countP (fun q => gone (Maps.has (fileD l)) q && dnQ st q) = 0 := by
  rw [List.countP_eq_zero]
  intro q hq
  unfold gone
  rw [has_key h q hq]
  simp
theorem cp_all {l : List Nt} {left : Lit → Bool} (h : ∀ kl, left kl = false) (st : Int) : (kys l).countP (fun q => gone left q && dnQ st q) = dnL st l := by
  rw [dn_kys]
  refine List.countP_congr fun q _ => ?_
  unfold gone
  rw [h]
  simp
set_option maxRecDepth 100000 in
set_option maxHeartbeats 1000000 in
theorem ldone_any {W : World} {lb mb base : Nat} {t : St} {v : Value} (h : LogAt W lb mb base t v) (hok : ∀ x ∈ t.fl, x.ok) (hlen : t.fl.length ≤ 1000000) (st : Int) : Calls Try.prog 20 #[.pointer (some ⟨lb, 0, none⟩), .int .i64 st] W (SaidN W (dnL st t.fl)) := by
  have c2 := h.c2
  have hown := h.fil
  unfold FilesAt at hown
  have HOK := Lib.hid hok
  have HLEN := Lib.hid (show ∀ left : Lit → Bool, (kys t.fl).countP (fun q => gone left q && dnQ st q) ≤ 1000000 from fun left => by
    refine Nat.le_trans List.countP_le_length ?_
    have : ∀ l : List Nt, (kys l).length ≤ l.length := fun l => by
      induction l with
      | nil => exact Nat.le_refl _
      | cons x r ih =>
        unfold kys
        split
        · rw [List.length_cons]; omega
        · rw [List.length_cons, List.length_cons]; omega
    have := this t.fl
    omega)
  have H0 := Lib.hid (cp_none hok st)
  clear h hok hlen
  go_enter Try.func20, Try.ntmps20
  go_wp2_with (at_range; refine wpList_range_own _ rfl _ _ rfl 80 2 place_keyed Try.underlying73 _ mb _ (fileD t.fl) rfl hown ?_; intro w0 hrg0 hg0 hs0)
  go_frame
  have hCg : Chg (fun _ => False) W w0 := (Chg.refl _ _).grown hg0 (fun k e => by cases e)
  obtain ⟨r, hr⟩ : ∃ r, W.heap.size = r := ⟨_, rfl⟩
  rw [hr] at hrg0 ⊢
  have HR := Lib.hid hr
  have HC0 := Lib.hid hCg
  have HRG := Lib.hid hrg0
  clear hown hg0 hs0 hr hCg hrg0 c2
  go_loopw [5] (fun v5 wr => ∃ left cnt N, wr.ranges Try.prog 80 (plainElem (H := Unit) Try.prog 2) mb r t.fl.length (fileD t.fl) left cnt ∧ (∀ kl, left kl = true → Maps.has (fileD t.fl) kl = true) ∧ (kys t.fl).countP (fun q => gone left q && dnQ st q) = N ∧ v5 = .int .i64 (N : Nat) ∧ Chg (fun _ => False) W wr) (fun _ wr => wr.rangeLeft mb r)
  case atStart => exact ⟨_, _, 0, HRG.out, fun _ h => h, H0.out, rfl, HC0.out⟩
  case round =>
    obtain ⟨left, cnt, N, hrg, hsub, hN, rfl, hC⟩ := hrel
    clear HRG H0
    obtain ⟨sg, hsg⟩ : ∃ sg, sg = left := ⟨_, rfl⟩
    have HSUB := Lib.hid hsub
    have HNN := Lib.hid hN
    have HC := Lib.hid hC
    have HRG := Lib.hid hrg
    clear hsub hN hC
    go_wp2_with (at_next; refine next_key _ rfl _ rfl 80 place_keyed _ mb r _ _ _ _ rfl hrg ?_ ?_)
    · intro hl
      have HD := Lib.hid (show (dnL st t.fl : Int) = (N : Int) by rw [← HNN.out, cp_all hl])
      clear hrg hl
      go_wp2
      go_ret
      exact ⟨by rw [HD.out]; rfl, HC.out⟩
    · intro key v kl w' cnt' hkey hlk hrg' hlt hgr hsz hen
      obtain ⟨q, hq, rfl, rfl⟩ := key_is HOK.out hkey (HSUB.out _ hlk)
      obtain ⟨g1, g2, g3⟩ := gone_step HOK.out hq hlk
      have HRG2 := Lib.hid hrg'
      have HLT := Lib.hid (show ∀ o, (w'.alloc o).rangeLeft mb r < wr.rangeLeft mb r from fun o => by rw [(hrg'.alloc o).left_eq, HRG.out.left_eq]; exact hlt)
      have hC' : Chg (fun _ => False) W w' := HC.out.trans ((Chg.refl (fun k => k = r) wr).grown hgr (fun k e => .inl (by cases e; rfl))) (fun _ _ h => h) (fun i hi h => by have := HR.out; omega)
      have HC2 := Lib.hid hC'
      have HS2 := Lib.hid (show ∀ kl, (left kl && !kl.sameKey (keyL q.1 q.2.1 q.2.2)) = true → Maps.has (fileD t.fl) kl = true from fun kl h => HSUB.out kl (by rw [Bool.and_eq_true] at h; exact h.1))
      have HCNT := Lib.hid (show (kys t.fl).countP (fun x => gone (fun z => left z && !z.sameKey (keyL q.1 q.2.1 q.2.2)) x && dnQ st x) = N + (if dnQ st q then 1 else 0) by
        rw [countP_one (p := fun x => gone left x && dnQ st x) (kys_nodup _) hq (fun x hx hne => by rw [g3 x hx hne]) (by rw [g1]; rfl), HNN.out, g2]
        simp)
      have hNb : N ≤ 1000000 := by rw [← HNN.out]; exact HLEN.out left
      have kw : IntKind.i64.wrap ((N : Int) + 1) = (N : Int) + 1 := IntWalk.i64_in _ (by omega)
      unfold keyV at hen
      simp only [keyV]
      clear hrg hrg' hlk hkey hlt hgr hsz hC' g1 g2 g3
      obtain ⟨qk, qa, qb⟩ := q
      simp only at hen ⊢
      by_cases hk : qk = 2
      · have b1 : (qk == 2) = true := beq_iff_eq.2 hk
        by_cases ha : qa = st
        · have b2 : (qa == st) = true := beq_iff_eq.2 ha
          have HX := Lib.hid (show (if dnQ st (qk, qa, qb) then 1 else 0) = 1 by unfold dnQ; simp [hk, ha])
          clear hk ha hNb
          go_wp2
          go_roundw
          case rel => exact ⟨_, _, N + 1, HRG2.out.alloc _, HS2.out, by rw [HCNT.out, HX.out], by go_num, HC2.out.alloc _⟩
          case measure => exact HLT.out _
        · have b2 : (qa == st) = false := beq_eq_false_iff_ne.2 ha
          have HX := Lib.hid (show (if dnQ st (qk, qa, qb) then 1 else 0) = 0 by unfold dnQ; simp [ha])
          clear hk ha hNb
          go_wp2
          go_roundw
          case rel => exact ⟨_, _, N, HRG2.out.alloc _, HS2.out, by rw [HCNT.out, HX.out, Nat.add_zero], rfl, HC2.out.alloc _⟩
          case measure => exact HLT.out _
      · have b1 : (qk == 2) = false := beq_eq_false_iff_ne.2 hk
        have HX := Lib.hid (show (if dnQ st (qk, qa, qb) then 1 else 0) = 0 by unfold dnQ; simp [hk])
        clear hk hNb
        go_wp2
        go_roundw
        case rel => exact ⟨_, _, N, HRG2.out.alloc _, HS2.out, by rw [HCNT.out, HX.out, Nat.add_zero], rfl, HC2.out.alloc _⟩
        case measure => exact HLT.out _
theorem ldone_none (st : Int) (W : World) : Calls Try.prog 20 #[.pointer none, .int .i64 st] W (SaidN W 0) := by
  go_enter Try.func20, Try.ntmps20
  go_wp2
  go_ret
  exact ⟨rfl, Chg.refl _ _⟩
theorem lsteps_none (W : World) : Calls Try.prog 26 #[.pointer none] W (SaidN W 0) := by
  go_enter Try.func26, Try.ntmps26
  go_wp2
  go_ret
  exact ⟨rfl, Chg.refl _ _⟩
set_option maxRecDepth 100000 in
set_option maxHeartbeats 1000000 in
theorem lsteps_any {W : World} {lb mb base : Nat} {t : St} {v : Value} (h : LogAt W lb mb base t v) (hok : ∀ x ∈ t.fl, x.ok) (hk : ∀ x ∈ t.fl, x.k ≤ 3 ∧ x.a ≤ 1048576 ∧ 0 ≤ x.a) : Calls Try.prog 26 #[.pointer (some ⟨lb, 0, none⟩)] W (SaidN W (stL t.fl)) := by
  have c2 := h.c2
  have hown := h.fil
  unfold FilesAt at hown
  have HOK := Lib.hid hok
  have HK := Lib.hid hk
  clear h hok hk
  go_enter Try.func26, Try.ntmps26
  go_wp2_with (at_range; refine wpList_range_own _ rfl _ _ rfl 80 2 place_keyed Try.underlying73 _ mb _ (fileD t.fl) rfl hown ?_; intro w0 hrg0 hg0 hs0)
  go_frame
  have hCg : Chg (fun _ => False) W w0 := (Chg.refl _ _).grown hg0 (fun k e => by cases e)
  obtain ⟨r, hr⟩ : ∃ r, W.heap.size = r := ⟨_, rfl⟩
  rw [hr] at hrg0 ⊢
  have HR := Lib.hid hr
  have HC0 := Lib.hid hCg
  have HRG := Lib.hid hrg0
  clear hown hg0 hs0 hr hCg hrg0 c2
  go_loopw [3] (fun v3 wr => ∃ left cnt m, wr.ranges Try.prog 80 (plainElem (H := Unit) Try.prog 2) mb r t.fl.length (fileD t.fl) left cnt ∧ (∀ kl, left kl = true → Maps.has (fileD t.fl) kl = true) ∧ (0 ≤ m ∧ m ≤ 1048577 ∧ (∀ q ∈ kys t.fl, gone left q = true → q.2.1 + 1 ≤ m) ∧ (m = 0 ∨ ∃ q ∈ kys t.fl, m = q.2.1 + 1)) ∧ v3 = .int .i64 (m : Int) ∧ Chg (fun _ => False) W wr) (fun _ wr => wr.rangeLeft mb r)
  case atStart => exact ⟨_, _, 0, HRG.out, fun _ h => h, ⟨Int.le_refl _, by decide, fun q hq hg => (by unfold gone at hg; rw [has_key HOK.out q hq] at hg; cases hg), .inl rfl⟩, rfl, HC0.out⟩
  case round =>
    obtain ⟨left, cnt, m, hrg, hsub, hM, rfl, hC⟩ := hrel
    clear HRG
    have HSUB := Lib.hid hsub
    have HM := Lib.hid hM
    have HC := Lib.hid hC
    have HRG := Lib.hid hrg
    clear hsub hM hC
    go_wp2_with (at_next; refine next_key _ rfl _ rfl 80 place_keyed _ mb r _ _ _ _ rfl hrg ?_ ?_)
    · intro hl
      have HD := Lib.hid (show m = stL t.fl from st_eq t.fl (fun x hx => (HK.out x hx).1) m HM.out.1 (fun q hq => HM.out.2.2.1 q hq (by unfold gone; rw [hl]; rfl)) HM.out.2.2.2)
      clear hrg hl
      go_wp2
      go_ret
      exact ⟨by rw [← HD.out]; rfl, HC.out⟩
    · intro key v kl w' cnt' hkey hlk hrg' hlt hgr hsz hen
      obtain ⟨q, hq, rfl, rfl⟩ := key_is HOK.out hkey (HSUB.out _ hlk)
      obtain ⟨g1, g2, g3⟩ := gone_step HOK.out hq hlk
      have HRG2 := Lib.hid hrg'
      have HLT := Lib.hid (show ∀ o, (w'.alloc o).rangeLeft mb r < wr.rangeLeft mb r from fun o => by rw [(hrg'.alloc o).left_eq, HRG.out.left_eq]; exact hlt)
      have hC' : Chg (fun _ => False) W w' := HC.out.trans ((Chg.refl (fun k => k = r) wr).grown hgr (fun k e => .inl (by cases e; rfl))) (fun _ _ h => h) (fun i hi h => by have := HR.out; omega)
      have HC2 := Lib.hid hC'
      have HS2 := Lib.hid (show ∀ kl, (left kl && !kl.sameKey (keyL q.1 q.2.1 q.2.2)) = true → Maps.has (fileD t.fl) kl = true from fun kl h => HSUB.out kl (by rw [Bool.and_eq_true] at h; exact h.1))
      obtain ⟨x, hx, hqx⟩ := (kys_mem _ _).1 hq
      have hqa : q.2.1 ≤ 1048576 ∧ 0 ≤ q.2.1 := by rw [hqx]; exact (HK.out x hx).2
      have HM2 := Lib.hid (show 0 ≤ max m (q.2.1 + 1) ∧ max m (q.2.1 + 1) ≤ 1048577 ∧ (∀ y ∈ kys t.fl, gone (fun z => left z && !z.sameKey (keyL q.1 q.2.1 q.2.2)) y = true → y.2.1 + 1 ≤ max m (q.2.1 + 1)) ∧ (max m (q.2.1 + 1) = 0 ∨ ∃ y ∈ kys t.fl, max m (q.2.1 + 1) = y.2.1 + 1) by
        obtain ⟨m1, m2, m3, m4⟩ := HM.out
        refine ⟨by omega, by omega, fun y hy hg => ?_, ?_⟩
        · by_cases e : y = q
          · rw [e]; omega
          · rw [g3 y hy e] at hg
            have := m3 y hy hg
            omega
        · by_cases e : m ≤ q.2.1 + 1
          · exact .inr ⟨q, hq, by omega⟩
          · rw [show max m (q.2.1 + 1) = m by omega]
            exact m4)
      have kw : IntKind.i64.wrap (q.2.1 + 1) = q.2.1 + 1 := IntWalk.i64_in _ (by omega)
      unfold keyV at hen
      simp only [keyV]
      clear hrg hrg' hlk hkey hlt hgr hsz hC' g1 g2 g3 hqa hqx
      obtain ⟨qk, qa, qb⟩ := q
      simp only at hen HM2 kw ⊢
      have HMX := Lib.hid (show (if m < qa + 1 then qa + 1 else m) = max m (qa + 1) by split <;> omega)
      go_wp2
      go_roundw
      case rel => exact ⟨_, _, max m (qa + 1), HRG2.out.alloc _, HS2.out, HM2.out, by rw [HMX.out], HC2.out.alloc _⟩
      case measure => exact HLT.out _
end Go.Proofs.Ytpiboaoifcajdaa
