/- great, and OctetWrites' walk. -/
import Derived.Test.YtjinbjbcfmhnmaaRef1
import Derived.Test.YtjinbjbcfmhnmaaOpen
import Derived.Deep.DeepCutAuto
namespace Go.Proofs.Ytjinbjbcfmhnmaa
open Go.RowKit

def sumS (l : List OpD) : Nat := (l.map fun x => x.s.size).foldr (· + ·) 0
def isGreat (l : List OpD) : Bool := decide (100 < l.length) || decide (100000 < sumS l)

theorem sumS_snoc (l : List OpD) (x : OpD) : sumS (l ++ [x]) = sumS l + x.s.size := by
  unfold sumS
  induction l with
  | nil => simp
  | cons y l ih => simp only [List.cons_append, List.map_cons, List.foldr_cons, ih]; omega
theorem sumS_le (l : List OpD) (h : ∀ x ∈ l, x.s.size ≤ 140737488351232) : sumS l ≤ l.length * 140737488351232 := by
  induction l with
  | nil => simp [sumS]
  | cons y l ih =>
    have h1 := h y (by simp)
    have h2 := ih (fun x hx => h x (by simp [hx]))
    have e : sumS (y :: l) = y.s.size + sumS l := rfl
    rw [e, List.length_cons, Nat.succ_mul]
    omega
theorem sumS_mem {l : List OpD} {x : OpD} (h : x ∈ l) : x.s.size ≤ sumS l := by
  induction l with
  | nil => cases h
  | cons y l ih =>
    have e : sumS (y :: l) = y.s.size + sumS l := rfl
    rcases List.mem_cons.1 h with rfl | h
    · omega
    · have := ih h
      omega

set_option maxHeartbeats 400000 in
theorem great_any (v : Value) (l : List OpD) (w : World) (hO : Ops w v l) : Calls Try.prog 12 #[v] w fun e w' => e = .returned (.bool (isGreat l)) ∧ w = w' := by
  obtain ⟨ao, c, rfl, g1, g2⟩ := hO.form
  unfold maxLen at g2
  have HO := Lib.hid hO
  clear hO
  go_enter Try.func12, Try.ntmps12
  go_wp2
  go_loop [3, 7] (fun t i => ∃ (k : Nat) (T : Int), k ≤ l.length ∧ i = .int .i64 k ∧ t = .int .i64 T ∧ (l.length ≤ 100 → T = (sumS (l.take k) : Nat))) (fun _ i => l.length - (intOf i).toNat)
  case atStart => exact ⟨0, 0, Nat.zero_le _, rfl, rfl, fun _ => rfl⟩
  case round =>
    obtain ⟨k, T, hk, rfl, rfl, hT⟩ := hrel
    have HT := Lib.hid hT
    clear hT
    by_cases hlt : k < l.length
    · obtain ⟨b, o, c', e1, hx⟩ := HO.out.cells k hlt
      injection e1 with e1 e2 e3
      subst e1
      have h3 := hx.c3
      have hs := (HO.out.ok _ (List.getElem_mem hlt)).s1
      obtain ⟨x, hxx⟩ : ∃ x, x = l[k] := ⟨_, rfl⟩
      rw [← hxx] at h3 hs
      have HX := Lib.hid hxx
      clear hxx hx e2 e3
      go_wp2
      go_round
      case rel =>
        refine ⟨k + 1, _, by omega, by go_num, rfl, fun hl => ?_⟩
        have hsum : sumS (l.take (k + 1)) = sumS (l.take k) + x.s.size := by
          rw [List.take_succ_eq_append_getElem hlt, ← HX.out, sumS_snoc]
        have hb := sumS_le (l.take k) (fun y hy => (HO.out.ok y (List.mem_of_mem_take hy)).s1)
        rw [List.length_take] at hb
        have hT := HT.out hl
        have : sumS (l.take k) ≤ 100 * 140737488351232 := Nat.le_trans hb (Nat.mul_le_mul_right _ (by omega))
        rw [hsum, IntWalk.wrap64_in _ ⟨by omega, by omega⟩]
        omega
      case measure => first | (simp [intOf]; done) | (simp [intOf]; omega)
    · obtain rfl : k = l.length := by omega
      rw [List.take_length] at HT
      by_cases h100 : l.length ≤ 100
      · have hT := HT.out h100
        have e1 : isGreat l = (decide (100 < (l.length : Int)) || decide (100000 < T)) := by
          unfold isGreat
          rw [hT]
          congr 1 <;> exact decide_eq_decide.2 (by omega)
        have HE := Lib.hid e1
        clear e1 hT
        go_wp2
        go_ret
        exact ⟨by rw [HE.out]; rfl, rfl⟩
      · have e1 : isGreat l = true := by
          unfold isGreat
          have : decide (100 < l.length) = true := by simp; omega
          rw [this, Bool.true_or]
        have HE := Lib.hid e1
        clear e1
        go_wp2
        go_ret
        refine ⟨?_, rfl⟩
        rw [HE.out]
        first
          | rfl
          | (show Ending.returned (.bool (decide (100 < (l.length : Int)) || _)) = _; rw [decide_eq_true (by omega)]; rfl)


/-- What a call writes, and its error. -/
def opErr (x : OpD) : Int := if x.kind = 0 then numErr x.size x.n.toNat else if x.kind = 2 then textErr x.s else 0
def opBytes (x : OpD) : List UInt8 :=
  if x.kind = 0 then numBytes x.size x.n.toNat else if x.kind = 1 then be 8 x.n.toNat else if x.kind = 2 then textBytes x.s else if x.kind = 3 then x.s.data.toList else []

/-- The round's state: the writer in block b holds ys; the slice u owns xs; nothing that lay in W has turned. -/
structure WInv (W w : World) (base b : Nat) (v u : Value) (ys xs : List UInt8) : Prop where
  wtr : Wtr w base b v ys
  all : w.ownsRow base 5 1 u xs.length (xs.map B)
  ne : ∀ k, v.ownBlock = some k → u.ownBlock ≠ some k
  old : Chg (fun _ => False) W w
  hb : W.heap.size ≤ b
  sz : base ≤ w.heap.size

theorem WInv.fr {W w w' : World} {base b : Nat} {v u : Value} {ys xs : List UInt8} (h : WInv W w base b v u ys xs) (hC : Chg (fun _ => False) w w') : WInv W w' base b v u ys xs :=
  ⟨h.wtr.fr hC, hC.owns h.all (fun _ _ => id), h.ne, h.old.tr hC, h.hb, Nat.le_trans h.sz hC.size⟩
theorem WInv.wrote {W w w' : World} {base b : Nat} {v v' u : Value} {ys ys' xs : List UInt8} (h : WInv W w base b v u ys xs) (hW : Wrote w w' base b v v' ys') : WInv W w' base b v' u ys' xs := by
  have hu := h.all.lt
  have hlt := h.wtr.lt
  refine ⟨hW.wtr, hW.chg.owns h.all (fun k hk e => ?_), fun k hk e => ?_, ?_, h.hb, Nat.le_trans h.sz hW.chg.size⟩
  · rcases e with e | e
    · have := (hu k hk).1; omega
    · exact h.ne k e hk
  · rcases hW.own k hk with e2 | e2
    · exact h.ne k e2 e
    · have := (hu k e).2; omega
  · refine h.old.trans hW.chg (fun _ _ h => h) (fun i hi e => ?_)
    rcases e with e | e
    · have := h.hb; omega
    · have := (h.wtr.owns.lt i e).1
      have := h.hb
      omega
theorem WInv.app {W w wm w' : World} {base b : Nat} {v u u' : Value} {ys xs zs : List UInt8} {n m : Nat} {olds news : List Value} (h : WInv W w base b v u ys xs) (hm : Chg (fun _ => False) w wm) (hg : wm.grownBy w' u.ownBlock)
    (hown : w'.ownsRow base 5 1 u' (n + m) (olds ++ news)) (hn : n = xs.length) (hmm : m = zs.length) (ho : olds = xs.map B) (hnews : news = zs.map B) (hO : ∀ k, u'.ownBlock = some k → u.ownBlock = some k ∨ wm.heap.size ≤ k) :
    WInv W w' base b v u' ys (xs ++ zs) := by
  subst hn hmm ho hnews
  have hlt := h.wtr.lt
  have hC : Chg (fun k => u.ownBlock = some k) w w' := (hm.mono (fun _ _ h => h.elim)).grown hg (fun k e => .inl e)
  refine ⟨h.wtr.chg hC (fun e => ?_) (fun k hk e => h.ne k hk e), ?_, fun k hk e => ?_, ?_, h.hb, Nat.le_trans h.sz hC.size⟩
  · have := (h.all.lt _ e).1; omega
  · rw [List.length_append, List.map_append]; exact hown
  · rcases hO k e with e2 | e2
    · exact h.ne k hk e2
    · have := (h.wtr.owns.lt k hk).2
      have := hm.size
      omega
  · refine h.old.trans hC (fun _ _ h => h) (fun i hi e => ?_)
    have := (h.all.lt i e).1
    have := h.hb
    omega

theorem WInv.at {W w w' : World} {base b g : Nat} {v u : Value} {ys xs : List UInt8} (h : WInv W w base b v u ys xs) (hC : Chg (fun q => q = g) w w') (hb : ¬ b = g) (hv : v.ownBlock ≠ some g) (hu : u.ownBlock ≠ some g) (hW : W.heap.size ≤ g) : WInv W w' base b v u ys xs :=
  ⟨h.wtr.chg hC hb (fun k hk e => hv (by rw [hk, e])), hC.owns h.all (fun k hk e => hu (by rw [hk, e])), h.ne, h.old.trans hC (fun _ _ h => h) (fun i hi e => by omega), h.hb, Nat.le_trans h.sz hC.size⟩
theorem u8_wrap_bd (m : Int) : 0 ≤ IntKind.u8.wrap m ∧ IntKind.u8.wrap m ≤ 255 := by rw [IntKind.wrap_u8]; omega

theorem owns_cells {w : World} {base : Nat} {e : TypeId} {v : Value} {n : Nat} {xs : List Value} (h : w.ownsRow base e 1 v n xs) :
    ∀ q, q < n → ∃ g c u, v = .slice (some ⟨g, 0, none⟩) n c ∧ base ≤ g ∧ w.cell? ⟨g, q, none⟩ = some u ∧ w.frozen? ⟨g, q, none⟩ = false ∧ xs[q]? = some u := by
  intro q hq
  have hl : xs.length = n := by simpa using h.1
  rcases h.2 with ⟨_, h0⟩ | ⟨g, cap, cur, rfl, hb, hg, _, _, _, _⟩
  · omega
  · have hx : xs[q]? = some xs[q] := List.getElem?_eq_getElem (by omega)
    have hc := h.cells (g := g) rfl q _ hx
    rw [Addr.add_lit, Nat.zero_add] at hc
    exact ⟨g, cap, _, rfl, hb, hc, by unfold World.frozen?; rw [hg]; simp, hx⟩

theorem opBytes_le (x : OpD) (h : x.s.size ≤ 100000) : (opBytes x).length ≤ 100008 := by
  unfold opBytes
  have hs : x.s.data.toList.length = x.s.size := by simp
  have hn : ∀ s n, (numBytes s n).length ≤ 8 := by
    intro s n
    unfold numBytes
    split
    · rename_i h0
      rw [be_length]
      unfold numErr at h0
      split at h0
      · rename_i h1; have := szd_cases h1; omega
      · cases h0
    · simp
  split
  · have := hn x.size x.n.toNat; omega
  · split
    · rw [be_length]; omega
    · split
      · unfold textBytes
        split
        · simp
        · rw [List.length_append, be_length, hs]; omega
      · split
        · omega
        · simp

set_option maxRecDepth 100000 in
set_option maxHeartbeats 1000000 in
theorem octetWrites_walk (v0 : Value) (l : List OpD) (W : World) (hO : Ops W v0 l) : Calls Try.prog 4 #[v0] W (True_ W) := by
  obtain ⟨i0, hi, hz0, hz1, hz2⟩ := info_parts Try.info5
  have hG := great_any v0 l W hO
  obtain ⟨ao, c, rfl, g1, g2⟩ := hO.form
  unfold maxLen at g2
  have HO := Lib.hid hO
  clear hO
  by_cases hgr : isGreat l = true
  · rw [hgr] at hG
    clear hgr
    go_enter Try.func4, Try.ntmps4
    go_wp2_with (go_at_call 12; refine hG.mono ?_; rintro e w' ⟨rfl, rfl⟩)
    go_ret
    exact ⟨rfl, Chg.refl _ _⟩
  · have hgr' : isGreat l = false := by simpa using hgr
    rw [hgr'] at hG
    have hl100 : l.length ≤ 100 := by
      unfold isGreat at hgr'; simp at hgr'; omega
    have hsum : sumS l ≤ 100000 := by
      unfold isGreat at hgr'; simp at hgr'; omega
    have hW0 : WInv W (W.alloc (.cells #[.slice none 0 0] 26)) (W.heap.size + 1) W.heap.size (.slice none 0 0) (.slice none 0 0) [] [] :=
      ⟨Wtr.new W _, World.ownsRow_nil _ _ _ _, by simp [Value.ownBlock], (Chg.refl _ W).alloc _, Nat.le_refl _, by simp⟩
    have HW0 := Lib.hid hW0
    clear hgr hgr' hW0
    go_enter Try.func4, Try.ntmps4
    go_wp2_with (go_at_call 12; refine hG.mono ?_; rintro e w' ⟨rfl, rfl⟩)
    go_loopw [4, 18] (fun u i wr => ∃ (k : Nat) (v : Value) (xs : List UInt8), k ≤ l.length ∧ i = .int .i64 k ∧ WInv W wr (W.heap.size + 1) W.heap.size v u xs xs ∧ xs.length ≤ k * 100008)
      (fun _ i _ => l.length - (intOf i).toNat)
    case atStart => exact ⟨0, _, [], Nat.zero_le _, rfl, HW0.out, Nat.zero_le _⟩
    case round =>
      obtain ⟨k, v, xs, hk, rfl, hI, hlen⟩ := hrel
      have HI := Lib.hid hI
      clear hI
      by_cases hlt : k < l.length
      · obtain ⟨b, o, c', e1, hx⟩ := HO.out.cells k hlt
        injection e1 with e1 e2 e3
        subst e1
        have hx := hx.chg HI.out.old id
        have hok := HO.out.ok _ (List.getElem_mem hlt)
        have hs := Nat.le_trans (sumS_mem (List.getElem_mem hlt)) hsum
        obtain ⟨x, hxx⟩ : ∃ x, x = l[k] := ⟨_, rfl⟩
        rw [← hxx] at hx hok hs
        have h0 := hx.c0
        have h1 := hx.c1
        have h2 := hx.c2
        have h3 := hx.c3
        obtain ⟨kind, size, n, s⟩ := x
        have n1 := hok.n1
        have n2 := hok.n2
        dsimp only at h0 h1 h2 h3 hs n1 n2
        have hlen2 : xs.length ≤ 100 * 100008 := Nat.le_trans hlen (Nat.mul_le_mul_right _ (by omega))
        have HL := Lib.hid hlen
        clear hxx hx e2 e3 hok hlen
        obtain ⟨aou, Lu, cu, rfl, hLu⟩ := owns_name HI.out.all
        have hA : Chg (fun _ => False) wr (wr.alloc (.cells #[.int .i64 kind, .int .i64 size, .int .u64 n, .string s] 34)) := (Chg.refl _ wr).alloc _
        have HI0 := HI.out.fr hA
        have hbw : W.heap.size < wr.heap.size := cell_lt HI.out.wtr.cell
        have hneS : ¬ (wr.heap.size = W.heap.size ∨ v.ownBlock = some wr.heap.size) := by
          rintro (e | e)
          · omega
          · have := (HI.out.wtr.owns.lt _ e).2; omega
        by_cases hk0 : kind = 0
        · subst hk0
          have hR := num_any size n _ _ v xs _ n1 n2 HI0.wtr (by omega) HI0.sz
          go_wp2_with fail
          refine hR.mono ?_
          clear hR
          rintro e w1 ⟨rfl, v1, hR⟩
          have HI1 := HI0.wrote hR
          have d1 := hR.chg.cell (new_cell wr #[.int .i64 0, .int .i64 size, .int .u64 n, .string s] 34 (i := 1) rfl) hneS
          have d2 := hR.chg.cell (new_cell wr #[.int .i64 0, .int .i64 size, .int .u64 n, .string s] 34 (i := 2) rfl) hneS
          go_wp2_with fail
          refine (refNum_any size n w1 n1 n2).mono ?_
          rintro e w2 ⟨vb, rfl, hob, hC2⟩
          have HI2 := HI1.fr hC2
          have Hbs : Hid (opBytes ⟨0, size, n, s⟩ = numBytes size n.toNat) := by unfold opBytes; rfl
          generalize numErr size n.toNat = E at *
          generalize numBytes size n.toNat = bs at *
          obtain ⟨aob, Lb, cb, rfl, hLb⟩ := owns_name hob
          have hSb := Sl.of_owns hob
          have hbs : bs.length ≤ 100008 := by rw [← Hbs.out]; exact opBytes_le _ hs
          have HSb := Lib.hid hSb
          clear hR hSb
          go_wp2_with (refine wpList_append_own_any rfl (.tmp 85) (.tmp 86) 24 rfl (W.heap.size + 1) 5 i0 (.int .u8 0) 1 1 Try.underlying24 hi hz0 hz1 hz2 rfl (by decide) (.slice aou Lu cu) _ _ rfl HI2.all aob Lb cb (bs.map B) rfl (by rw [List.length_map, hLb.out, Nat.mul_one]) HSb.out.src (oneCell_B _) (by rw [hLb.out]; unfold maxLen; omega) (by rw [hLb.out]; omega) HI2.sz ?_; intro u2 w3 hown3 hg3 _ hO3; have HI3 := HI2.app (Chg.refl _ w2) hg3 hown3 rfl hLb.out rfl rfl hO3; obtain ⟨ao3, L3, c3, rfl, hL3⟩ := owns_name hown3)
          have hlen3 := len_any _ _ _ _ _ HI3.wtr
          rw [List.length_append, ← hLb.out, ← hL3.out] at hlen3
          refine hlen3.mono ?_
          rintro e w' ⟨rfl, rfl⟩
          go_wp2
          go_roundw
          case rel => exact ⟨k + 1, _, xs ++ bs, by omega, by go_num, HI3, by have := HL.out; rw [List.length_append]; omega⟩
          case measure => first | (simp [intOf]; done) | (simp [intOf]; omega)
        · by_cases hk1 : kind = 1
          · subst hk1
            clear hk0
            have hR := int_any (wrap64 n) _ _ v xs _ HI0.wtr (by omega) HI0.sz
            have hi64 : (wrap64 n % 18446744073709551616).toNat = n.toNat := by unfold wrap64; omega
            rw [hi64] at hR
            go_wp2_with fail
            refine hR.mono ?_
            clear hR
            rintro e w1 ⟨rfl, v1, hR⟩
            have HI1 := HI0.wrote hR
            have d2 := hR.chg.cell (new_cell wr #[.int .i64 1, .int .i64 size, .int .u64 n, .string s] 34 (i := 2) rfl) hneS
            have hr := refInt_any (wrap64 n) w1
            rw [hi64] at hr
            clear hi64
            go_wp2_with fail
            refine hr.mono ?_
            clear hr
            rintro e w2 ⟨vb, rfl, hob, hC2⟩
            have HI2 := HI1.fr hC2
            have Hbs : Hid (opBytes ⟨1, size, n, s⟩ = be 8 n.toNat) := by unfold opBytes; rfl
            generalize be 8 n.toNat = bs at *
            obtain ⟨aob, Lb, cb, rfl, hLb⟩ := owns_name hob
            have hSb := Sl.of_owns hob
            have hbs : bs.length ≤ 100008 := by rw [← Hbs.out]; exact opBytes_le _ hs
            have HSb := Lib.hid hSb
            clear hR hSb
            go_wp2_with (refine wpList_append_own_any rfl (.tmp 85) (.tmp 86) 24 rfl (W.heap.size + 1) 5 i0 (.int .u8 0) 1 1 Try.underlying24 hi hz0 hz1 hz2 rfl (by decide) (.slice aou Lu cu) _ _ rfl HI2.all aob Lb cb (bs.map B) rfl (by rw [List.length_map, hLb.out, Nat.mul_one]) HSb.out.src (oneCell_B _) (by rw [hLb.out]; unfold maxLen; omega) (by rw [hLb.out]; omega) HI2.sz ?_; intro u2 w3 hown3 hg3 _ hO3; have HI3 := HI2.app (Chg.refl _ w2) hg3 hown3 rfl hLb.out rfl rfl hO3; obtain ⟨ao3, L3, c3, rfl, hL3⟩ := owns_name hown3)
            have hlen3 := len_any _ _ _ _ _ HI3.wtr
            rw [List.length_append, ← hLb.out, ← hL3.out] at hlen3
            refine hlen3.mono ?_
            rintro e w' ⟨rfl, rfl⟩
            go_wp2
            go_roundw
            case rel => exact ⟨k + 1, _, xs ++ bs, by omega, by go_num, HI3, by have := HL.out; rw [List.length_append]; omega⟩
            case measure => first | (simp [intOf]; done) | (simp [intOf]; omega)
          · by_cases hk2 : kind = 2
            · subst hk2
              clear hk0 hk1
              have hsm : s.size ≤ maxLen := by unfold maxLen; omega
              have hR := text_any s _ _ v xs _ hsm HI0.wtr (by omega) HI0.sz
              have hr := fun w => refText_any s w hsm
              clear hsm
              go_wp2_with fail
              refine hR.mono ?_
              clear hR
              rintro e w1 ⟨rfl, v1, hR⟩
              have HI1 := HI0.wrote hR
              have d3 := hR.chg.cell (new_cell wr #[.int .i64 2, .int .i64 size, .int .u64 n, .string s] 34 (i := 3) rfl) hneS
              go_wp2_with fail
              refine (hr w1).mono ?_
              clear hr
              rintro e w2 ⟨vb, rfl, hob, hC2⟩
              have HI2 := HI1.fr hC2
              have Hbs : Hid (opBytes ⟨2, size, n, s⟩ = textBytes s) := by unfold opBytes; rfl
              generalize textErr s = E at *
              generalize textBytes s = bs at *
              obtain ⟨aob, Lb, cb, rfl, hLb⟩ := owns_name hob
              have hSb := Sl.of_owns hob
              have hbs : bs.length ≤ 100008 := by rw [← Hbs.out]; exact opBytes_le _ hs
              have HSb := Lib.hid hSb
              clear hR hSb
              go_wp2_with (refine wpList_append_own_any rfl (.tmp 85) (.tmp 86) 24 rfl (W.heap.size + 1) 5 i0 (.int .u8 0) 1 1 Try.underlying24 hi hz0 hz1 hz2 rfl (by decide) (.slice aou Lu cu) _ _ rfl HI2.all aob Lb cb (bs.map B) rfl (by rw [List.length_map, hLb.out, Nat.mul_one]) HSb.out.src (oneCell_B _) (by rw [hLb.out]; unfold maxLen; omega) (by rw [hLb.out]; omega) HI2.sz ?_; intro u2 w3 hown3 hg3 _ hO3; have HI3 := HI2.app (Chg.refl _ w2) hg3 hown3 rfl hLb.out rfl rfl hO3; obtain ⟨ao3, L3, c3, rfl, hL3⟩ := owns_name hown3)
              have hlen3 := len_any _ _ _ _ _ HI3.wtr
              rw [List.length_append, ← hLb.out, ← hL3.out] at hlen3
              refine hlen3.mono ?_
              rintro e w' ⟨rfl, rfl⟩
              go_wp2
              go_roundw
              case rel => exact ⟨k + 1, _, xs ++ bs, by omega, by go_num, HI3, by have := HL.out; rw [List.length_append]; omega⟩
              case measure => first | (simp [intOf]; done) | (simp [intOf]; omega)
            · by_cases hk3 : kind = 3
              · subst hk3
                clear hk0 hk1 hk2
                have hsm : s.size ≤ maxLen := by unfold maxLen; omega
                have hs63 : s.size ≤ 100000 := hs
                obtain ⟨ca, Oa, hca, hSa, hfa⟩ := run_bytes_str s hsm (wr.alloc (.cells #[.int .i64 3, .int .i64 size, .int .u64 n, .string s] 34))
                rw [World.size_alloc] at hca hSa hfa
                have hA2 : Chg (fun _ => False) (wr.alloc (.cells #[.int .i64 3, .int .i64 size, .int .u64 n, .string s] 34)) ((wr.alloc (.cells #[.int .i64 3, .int .i64 size, .int .u64 n, .string s] 34)).drew.alloc Oa) := ((Chg.refl _ _).drew).alloc _
                have HIa := HI0.fr hA2
                have d3 := hA2.cell (new_cell wr #[.int .i64 3, .int .i64 size, .int .u64 n, .string s] 34 (i := 3) rfl) id
                have hsz3 : ((wr.alloc (.cells #[.int .i64 3, .int .i64 size, .int .u64 n, .string s] 34)).drew.alloc Oa).heap.size = wr.heap.size + 1 + 1 := by simp
                have hR := raw_any _ s.data.toList _ _ v xs _ hSa HIa.wtr (by simp; omega) HIa.sz
                have hgb : ¬ (wr.heap.size + 1 = W.heap.size ∨ v.ownBlock = some (wr.heap.size + 1)) := by
                  rintro (e | e)
                  · omega
                  · have := (HI.out.wtr.owns.lt _ e).2; omega
                have hgu : (Value.slice aou Lu cu).ownBlock ≠ some (wr.heap.size + 1) := fun e => by have := (HI.out.all.lt _ e).2; omega
                have HSa := Lib.hid hSa
                have HFa := Lib.hid hfa
                have HSM := Lib.hid hsm
                clear hSa hfa hsm
                obtain ⟨wo, hwo⟩ : ∃ wo : World, wo = wr := ⟨_, rfl⟩
                subst hwo
                go_wp2_with fail
                refine hR.mono ?_
                clear hR
                rintro e w1 ⟨rfl, v1, hR⟩
                have HI1 := HIa.wrote hR
                have e3 := hR.chg.cell d3 hneS
                have hv1 : v1.ownBlock ≠ some (wo.heap.size + 1) := fun e => by
                  rcases hR.own _ e with e | e
                  · exact hgb (.inr e)
                  · rw [hsz3] at e; omega
                have hcell1 : ∀ j, j < s.size → ∃ m : Int, (0 ≤ m ∧ m ≤ 255) ∧ w1.cell? ⟨wo.heap.size + 1, j, none⟩ = some (.int .u8 m) ∧ w1.frozen? ⟨wo.heap.size + 1, j, none⟩ = false := by
                  intro j hj
                  obtain ⟨b1, o1, c1, e1, hcl⟩ := HSa.out.at (j := j) (by simp; exact hj)
                  injection e1 with e1 _ _
                  injection e1 with e1
                  injection e1 with e1 e2
                  subst e1 e2
                  rw [Nat.zero_add] at hcl
                  refine ⟨(s.data.toList[j]'(by simpa using hj)).toNat, ⟨by omega, by have := (s.data.toList[j]'(by simpa using hj)).toNat_lt; omega⟩, ?_, hR.chg.frozen hcl (HFa.out j hj) hgb⟩
                  rw [hR.chg.cell hcl hgb]
                  simp [B]
                obtain ⟨cb, Ob, hcb, hSb0, _⟩ := run_bytes_str s HSM.out w1
                have hA3 : Chg (fun _ => False) w1 (w1.drew.alloc Ob) := ((Chg.refl _ _).drew).alloc _
                have HI1b := HI1.fr hA3
                have hg1 : wo.heap.size + 1 < w1.heap.size := by have := hR.chg.size; rw [hsz3] at this; omega
                have HC1 := Lib.hid hcell1
                have HSb0 := Lib.hid hSb0
                clear hcell1 hSb0 HSa HFa hR d3 hsz3
                have hB0 : ((w1.alloc Ob).drew).heap.size = w1.heap.size + 1 := by simp
                obtain ⟨bs, hbs0⟩ : ∃ bs : List UInt8, bs = s.data.toList := ⟨_, rfl⟩
                have hLb : Hid (s.size = bs.length) := by rw [hbs0]; show s.size = _; simp
                have Hbs : Hid (opBytes ⟨3, size, n, s⟩ = bs) := by rw [hbs0]; unfold opBytes; rfl
                have HI1b' : WInv W ((w1.alloc Ob).drew) (W.heap.size + 1) W.heap.size v1 (.slice aou Lu cu) (xs ++ bs) xs := by rw [hbs0]; exact HI1b
                have hSbb : Sl ((w1.alloc Ob).drew) (.slice (some ⟨w1.heap.size, 0, none⟩) s.size cb) (bs.map B) := by rw [hbs0]; exact HSb0.out
                have HSbb := Lib.hid hSbb
                have HI1c := Lib.hid HI1b'
                clear hSbb HI1b' HI1b hbs0 HSb0
                go_wp2_with fail
                go_loopw [75] (fun i wz => ∃ j : Nat, j ≤ s.size ∧ i = .int .i64 j ∧ Chg (fun q => q = wo.heap.size + 1) (w1.alloc Ob).drew wz ∧ (∀ q, q < s.size → ∃ m : Int, (0 ≤ m ∧ m ≤ 255) ∧ wz.cell? ⟨wo.heap.size + 1, q, none⟩ = some (.int .u8 m) ∧ wz.frozen? ⟨wo.heap.size + 1, q, none⟩ = false))
                  (fun i _ => s.size - (intOf i).toNat)
                case atStart =>
                  refine ⟨0, Nat.zero_le _, rfl, Chg.refl _ _, fun q hq => ?_⟩
                  obtain ⟨m, h1, h2, h3⟩ := HC1.out q hq
                  exact ⟨m, h1, hA3.cell h2 id, hA3.frozen h2 h3 id⟩
                case round =>
                  obtain ⟨j, hj, rfl, hCz, hcz⟩ := hrel
                  by_cases hjl : j < s.size
                  · obtain ⟨m, hm, hc, hf⟩ := hcz j hjl
                    have HZ := Lib.hid hcz
                    clear hcz
                    go_wp2
                    go_roundw
                    case rel =>
                      refine ⟨j + 1, by omega, by go_num, hCz.setCell (p := ⟨wo.heap.size + 1, j, none⟩) (.inl rfl) _, fun q hq => ?_⟩
                      by_cases hqj : q = j
                      · subst hqj
                        exact ⟨_, u8_wrap_bd _, World.cell?_setCell_same' _ _ _ (by rw [hc]; rfl), by rw [World.frozen?_setCell]; exact hf⟩
                      · obtain ⟨m2, b2, c2, f2⟩ := HZ.out q hq
                        exact ⟨m2, b2, by rw [World.cell?_setCell_other _ _ _ _ (by first | (simp; done) | (simp; omega))]; exact c2, by rw [World.frozen?_setCell]; exact f2⟩
                    case measure => first | (simp [intOf]; done) | (simp [intOf]; omega)
                  · obtain rfl : j = s.size := by omega
                    have HI2 := HI1c.out.at hCz (fun e => by omega) hv1 hgu (by omega)
                    have hSb := HSbb.out.chg hCz (fun q hq e => by simp [Value.ownBlock] at hq; omega)
                    obtain ⟨w2, hw2⟩ : ∃ w2, w2 = wr := ⟨_, rfl⟩
                    subst hw2
                    have hR : True := trivial
                    clear hcz HC1 HSbb HI1c
                    have hbs : bs.length ≤ 100008 := by rw [← Hbs.out]; exact opBytes_le _ hs
                    have HSb := Lib.hid hSb
                    clear hR hSb
                    go_wp2_with (refine wpList_append_own_any rfl (.tmp 85) (.tmp 86) 24 rfl (W.heap.size + 1) 5 i0 (.int .u8 0) 1 1 Try.underlying24 hi hz0 hz1 hz2 rfl (by decide) (.slice aou Lu cu) _ _ rfl HI2.all (some ⟨w1.heap.size, 0, none⟩) s.size cb (bs.map B) rfl (by rw [List.length_map, hLb.out, Nat.mul_one]) HSb.out.src (oneCell_B _) (by rw [hLb.out]; unfold maxLen; omega) (by rw [hLb.out]; omega) HI2.sz ?_; intro u2 w3 hown3 hg3 _ hO3; have HI3 := HI2.app (Chg.refl _ w2) hg3 hown3 rfl hLb.out rfl rfl hO3; obtain ⟨ao3, L3, c3, rfl, hL3⟩ := owns_name hown3)
                    have hlen3 := len_any _ _ _ _ _ HI3.wtr
                    rw [List.length_append, ← hLb.out, ← hL3.out] at hlen3
                    refine hlen3.mono ?_
                    rintro e w' ⟨rfl, rfl⟩
                    go_wp2
                    go_roundw
                    case rel => exact ⟨k + 1, _, xs ++ bs, by omega, by go_num, HI3, by have := HL.out; rw [List.length_append]; omega⟩
                    case measure => first | (simp [intOf]; done) | (simp [intOf]; omega)
              · have g0 : (kind == 0) = false := by simpa using hk0
                have g1 : (kind == 1) = false := by simpa using hk1
                have g2' : (kind == 2) = false := by simpa using hk2
                have g3 : (kind == 3) = false := by simpa using hk3
                have Hbs : Hid (opBytes ⟨kind, size, n, s⟩ = []) := by unfold opBytes; rw [if_neg hk0, if_neg hk1, if_neg hk2, if_neg hk3]; rfl
                clear hk0 hk1 hk2 hk3
                obtain ⟨w2, hw2⟩ : ∃ w2, wr.alloc (.cells #[.int .i64 kind, .int .i64 size, .int .u64 n, .string s] 34) = w2 := ⟨_, rfl⟩
                obtain ⟨bs, hbs0⟩ : ∃ bs : List UInt8, bs = [] := ⟨_, rfl⟩
                have HI2 : WInv W w2 (W.heap.size + 1) W.heap.size v (.slice aou Lu cu) (xs ++ bs) xs := by rw [hbs0, List.append_nil, ← hw2]; exact HI0
                have hSb : Sl w2 (.slice none 0 0) (bs.map B) := by rw [hbs0]; exact Sl.of_owns (World.ownsRow_nil w2 0 5 1)
                have hLb : Hid (0 = bs.length) := by rw [hbs0]; rfl
                rw [← hbs0] at Hbs
                have hR : True := trivial
                have HW2 := Lib.hid hw2
                clear hw2 hbs0
                go_upto_region 30 with (fail)
                rw [HW2.out]
                have hbs : bs.length ≤ 100008 := by rw [← Hbs.out]; exact opBytes_le _ hs
                have HSb := Lib.hid hSb
                clear hR hSb
                go_wp2_with (refine wpList_append_own_any rfl (.tmp 85) (.tmp 86) 24 rfl (W.heap.size + 1) 5 i0 (.int .u8 0) 1 1 Try.underlying24 hi hz0 hz1 hz2 rfl (by decide) (.slice aou Lu cu) _ _ rfl HI2.all none 0 0 (bs.map B) rfl (by rw [List.length_map, hLb.out, Nat.mul_one]) HSb.out.src (oneCell_B _) (by rw [hLb.out]; unfold maxLen; omega) (by rw [hLb.out]; omega) HI2.sz ?_; intro u2 w3 hown3 hg3 _ hO3; have HI3 := HI2.app (Chg.refl _ w2) hg3 hown3 rfl hLb.out rfl rfl hO3; obtain ⟨ao3, L3, c3, rfl, hL3⟩ := owns_name hown3)
                have hlen3 := len_any _ _ _ _ _ HI3.wtr
                rw [List.length_append, ← hLb.out, ← hL3.out] at hlen3
                refine hlen3.mono ?_
                rintro e w' ⟨rfl, rfl⟩
                go_wp2
                go_roundw
                case rel => exact ⟨k + 1, _, xs ++ bs, by omega, by go_num, HI3, by have := HL.out; rw [List.length_append]; omega⟩
                case measure => first | (simp [intOf]; done) | (simp [intOf]; omega)
      · obtain rfl : k = l.length := by omega
        have hl2 : xs.length ≤ 140737488355328 := by
          have := Nat.le_trans hlen (Nat.mul_le_mul_right 100008 hl100)
          omega
        have hb1 := bytes_any _ _ _ _ _ HI.out.wtr hl2
        obtain ⟨aou, Lu, cu, rfl, hLu⟩ := owns_name HI.out.all
        obtain ⟨S1, hS1, q1, q2⟩ := str_name xs
        have HS1 := Lib.hid hS1
        clear hS1 hlen hlt q1 q2
        obtain ⟨wo, hwo⟩ : ∃ wo : World, wo = wr := ⟨_, rfl⟩
        subst hwo
        go_wp2_with fail
        refine hb1.mono ?_
        clear hb1
        rintro e w1 ⟨va, rfl, hoa, hC1⟩
        have HI1 := HI.out.fr hC1
        have hcv1 := conv_sl (Sl.of_owns hoa)
        have hcv2 := conv_sl (Sl.of_owns HI1.all)
        rw [HS1.out] at hcv1 hcv2
        have hrow := owns_cells hoa
        obtain ⟨aoa, La, ca, rfl, hLa⟩ := owns_name hoa
        have HR := Lib.hid hrow
        have hLa63 : La ≤ 140737488355328 := by rw [hLa.out]; exact hl2
        have HLa : La = xs.length := hLa.out
        have HHLa := Lib.hid HLa
        have HI1' := Lib.hid HI1
        clear hrow HI1 hoa HLa
        go_wp2_with fail
        go_loopw [106] (fun i wz => ∃ j : Nat, j ≤ La ∧ i = .int .i64 j ∧ Chg (fun q => wo.heap.size ≤ q) w1 wz ∧ (∀ q, q < La → ∃ (g : Nat) (m : Int), aoa = some ⟨g, 0, none⟩ ∧ wo.heap.size ≤ g ∧ wz.cell? ⟨g, q, none⟩ = some (.int .u8 m) ∧ wz.frozen? ⟨g, q, none⟩ = false))
          (fun i _ => La - (intOf i).toNat)
        case atStart =>
          refine ⟨0, Nat.zero_le _, rfl, Chg.refl _ _, fun q hq => ?_⟩
          obtain ⟨g, c, u, e1, e2, e3, e4, e5⟩ := HR.out q (by rw [← HHLa.out]; exact hq)
          injection e1 with e1 _ _
          rw [List.getElem?_map] at e5
          cases hx : xs[q]? with
          | none => rw [hx] at e5; cases e5
          | some y => rw [hx] at e5; exact ⟨g, _, e1, e2, by rw [e3, ← Option.some.inj e5]; rfl, e4⟩
        case round =>
          obtain ⟨j, hj, rfl, hCz, hcz⟩ := hrel
          by_cases hjl : j < La
          · obtain ⟨g, m, rfl, hg, hc, hf⟩ := hcz j hjl
            have HZ := Lib.hid hcz
            clear hcz
            go_wp2
            go_roundw
            case rel =>
              refine ⟨j + 1, by omega, by go_num, hCz.setCell (p := ⟨g, j, none⟩) (.inl hg) _, fun q hq => ?_⟩
              by_cases hqj : q = j
              · subst hqj
                exact ⟨g, _, rfl, hg, World.cell?_setCell_same' _ _ _ (by rw [hc]; rfl), by rw [World.frozen?_setCell]; exact hf⟩
              · obtain ⟨g2, m2, e2, b2, c2, f2⟩ := HZ.out q hq
                injection e2 with e2
                injection e2 with e2 _
                subst e2
                exact ⟨g, m2, rfl, hg, by rw [World.cell?_setCell_other _ _ _ _ (by first | (simp; done) | (simp; omega))]; exact c2, by rw [World.frozen?_setCell]; exact f2⟩
            case measure => first | (simp [intOf]; done) | (simp [intOf]; omega)
          · obtain rfl : j = La := by omega
            have hCw : Chg (fun _ => False) wo wr := hC1.trans hCz (fun _ _ h => h) (fun i hi h => by omega)
            have HI2 := HI.out.fr hCw
            have hb2 := bytes_any _ _ _ _ _ HI2.wtr.drew hl2
            have hcv3 := conv_sl (Sl.of_owns (HI2.fr ((Chg.refl _ wr).drew)).all)
            rw [HS1.out] at hcv3
            clear hcz hcv1 hcv2
            go_wp2_with fail
            go_region_with (go_at_call 11; refine hb2.mono ?_; rintro e w4 ⟨u4, rfl, ho4, hC4⟩; have hcv4 := conv_sl (Sl.of_owns ho4); rw [HS1.out] at hcv4; have hcv5 := conv_sl (Sl.of_owns ((HI2.fr ((Chg.refl _ wr).drew)).fr hC4).all); rw [HS1.out] at hcv5)
            all_goals
              go_wp2
              go_ret
              refine ⟨?_, (HI2.old.drew).tr hC4⟩
              rfl
end Go.Proofs.Ytjinbjbcfmhnmaa
