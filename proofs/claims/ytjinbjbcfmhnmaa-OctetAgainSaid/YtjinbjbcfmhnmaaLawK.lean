/- OctetBack's walk. -/
import Derived.Test.YtjinbjbcfmhnmaaOctP
namespace Go.Proofs.Ytjinbjbcfmhnmaa
open Go.RowKit

def OpD.cells (x : OpD) : List Value := [.int .i64 x.kind, .int .i64 x.size, .int .u64 x.n, .string x.s]
def cellsOf (l : List OpD) : List Value := l.flatMap OpD.cells
def bytesOf (l : List OpD) : List UInt8 := l.flatMap opBytes

theorem cellsOf_length (l : List OpD) : (cellsOf l).length = l.length * 4 := by
  induction l with
  | nil => rfl
  | cons x l ih => simp only [cellsOf, List.flatMap_cons, List.length_append] at *; rw [ih, List.length_cons]; simp only [OpD.cells, List.length_cons, List.length_nil]; omega
theorem cellsOf_snoc (l : List OpD) (x : OpD) : cellsOf (l ++ [x]) = cellsOf l ++ x.cells := by simp [cellsOf]
theorem bytesOf_snoc (l : List OpD) (x : OpD) : bytesOf (l ++ [x]) = bytesOf l ++ opBytes x := by simp [bytesOf]
theorem cellsOf_at (l : List OpD) (j : Nat) (h : j < l.length) (i : Nat) (hi : i < 4) : (cellsOf l)[j * 4 + i]? = l[j].cells[i]? := by
  induction l generalizing j with
  | nil => simp at h
  | cons x l ih =>
    have hc : x.cells.length = 4 := rfl
    have e : cellsOf (x :: l) = x.cells ++ cellsOf l := rfl
    rw [e]
    cases j with
    | zero => rw [List.getElem?_append_left (by omega)]; simp
    | succ j =>
      rw [List.getElem?_append_right (by omega), show (j + 1) * 4 + i - x.cells.length = j * 4 + i by omega, ih j (by simpa using h)]
      rfl
theorem bytesOf_drop (l : List OpD) (j : Nat) (h : j < l.length) : ∃ rest, (bytesOf l).drop (bytesOf (l.take j)).length = opBytes l[j] ++ rest := by
  have e : bytesOf l = bytesOf (l.take j) ++ (opBytes l[j] ++ bytesOf (l.drop (j + 1))) := by
    have h1 : l = l.take j ++ ([l[j]] ++ l.drop (j + 1)) := by
      rw [← List.append_assoc]
      simp
    have h2 : ∀ a b : List OpD, bytesOf (a ++ b) = bytesOf a ++ bytesOf b := fun a b => by simp [bytesOf]
    conv => lhs; rw [h1, h2, h2]
    simp [bytesOf]
  refine ⟨bytesOf (l.drop (j + 1)), ?_⟩
  conv => lhs; rw [e]
  rw [List.drop_left]

theorem new_cells (w : World) (c : Array Value) (t : TypeId) : ∀ j u, c.toList[j]? = some u → ∃ ad, some (⟨w.heap.size, 0, none⟩ : Addr) = some ad ∧ (w.alloc (.cells c t)).cell? (ad.add j) = some u := by
  intro j u hu
  refine ⟨_, rfl, ?_⟩
  rw [Addr.add_lit, Nat.zero_add]
  exact new_cell w c t (by simpa using hu)

theorem opBytes_bad (x : OpD) (h : okW x = false) : opBytes x = [] := by
  unfold okW at h
  unfold opBytes
  by_cases h0 : x.kind = 0
  · rw [if_pos h0] at h ⊢
    unfold numBytes
    rw [if_neg (by simpa using h)]
  · rw [if_neg h0] at h ⊢
    by_cases h1 : x.kind = 1
    · rw [if_pos h1] at h; cases h
    · rw [if_neg h1] at h ⊢
      by_cases h2 : x.kind = 2
      · rw [if_pos h2] at h ⊢
        unfold textErr at h
        unfold textBytes
        by_cases h3 : 65535 < x.s.size
        · rw [if_pos h3]
        · rw [if_neg h3] at h; cases h
      · rw [if_neg h2] at h ⊢
        rw [if_neg (by simpa using h)]

/-- Where reading stands behind k calls. -/
def posK (l : List OpD) (k : Nat) : Nat := (bytesOf (l.take k)).length
theorem posK_succ (l : List OpD) (k : Nat) (h : k < l.length) : posK l (k + 1) = posK l k + (opBytes l[k]).length := by
  unfold posK
  rw [List.take_succ_eq_append_getElem h, bytesOf_snoc, List.length_append]
theorem posK_all (l : List OpD) : posK l l.length = (bytesOf l).length := by unfold posK; rw [List.take_length]

/-- A call that was kept. -/
structure Kept (x : OpD) : Prop where
  ok : okW x = true
  n1 : 0 ≤ x.n
  n2 : x.n < 18446744073709551616
  s1 : x.s.size ≤ 100000

theorem Ops.of_owns {w : World} {base : Nat} {e : TypeId} {v : Value} {l : List OpD} (h : w.ownsRow base e 4 v l.length (cellsOf l)) (hk : ∀ x ∈ l, OpOk x) : Ops w v l := by
  refine ⟨?_, fun j hj => ?_, hk⟩
  · obtain ⟨ao, c, e1, h1, h2, _⟩ := owns_form h
    exact ⟨ao, c, e1, h1, h2⟩
  · rcases h.2 with ⟨_, h0⟩ | ⟨g, cap, cur, rfl, hb, hg, _⟩
    · omega
    · have hx : ∀ i, i < 4 → ∀ u, l[j].cells[i]? = some u → w.cell? ⟨g, 0 + j * 4 + i, none⟩ = some u := by
        intro i hi u hu
        have := h.cells (g := g) rfl (j * 4 + i) u (by rw [cellsOf_at l j hj i hi]; exact hu)
        rw [Addr.add_lit] at this
        rw [Nat.add_assoc]
        exact this
      exact ⟨g, 0, cap, rfl, ⟨hx 0 (by omega) _ rfl, hx 1 (by omega) _ rfl, hx 2 (by omega) _ rfl, hx 3 (by omega) _ rfl⟩⟩

/-- The first loop's state. -/
structure KInv (W w : World) (base b : Nat) (v u : Value) (l : List OpD) : Prop where
  wtr : Wtr w base b v (bytesOf l)
  all : w.ownsRow base 34 4 u l.length (cellsOf l)
  ne : ∀ k, v.ownBlock = some k → u.ownBlock ≠ some k
  old : Chg (fun _ => False) W w
  hb : W.heap.size ≤ b
  sz : base ≤ w.heap.size
  kept : ∀ x ∈ l, Kept x ∧ OpOk x

/-- Behind a call that writes. -/
theorem KInv.wrote {W w w' : World} {base b : Nat} {v v' u : Value} {l : List OpD} {ys : List UInt8} (h : KInv W w base b v u l) (hW : Wrote w w' base b v v' ys) :
    Wtr w' base b v' ys ∧ w'.ownsRow base 34 4 u l.length (cellsOf l) ∧ (∀ k, v'.ownBlock = some k → u.ownBlock ≠ some k) ∧ Chg (fun _ => False) W w' ∧ base ≤ w'.heap.size := by
  have hu := h.all.lt
  have hlt := h.wtr.lt
  refine ⟨hW.wtr, hW.chg.owns h.all (fun k hk e => ?_), fun k hk e => ?_, ?_, Nat.le_trans h.sz hW.chg.size⟩
  · rcases e with e | e
    · have := (hu k hk).1; omega
    · exact h.ne k e hk
  · rcases hW.own k hk with e2 | e2
    · exact h.ne k e2 e
    · have := (hu k e).2; omega
  · refine h.old.trans hW.chg (fun _ _ h => h) (fun i hi e => ?_)
    rcases e with e | e
    · have := h.hb; omega
    · have := (h.wtr.owns.lt i e).1
      have := h.hb
      omega

theorem Try.info34 : (Try.prog.info? 34).map (fun i => (i.zero, i.size, i.bytes)) = some (some (.agg #[.int .i64 0, .int .i64 0, .int .u64 0, .string ByteArray.empty]), 4, 40) := by kernel_rfl

set_option maxRecDepth 100000 in
set_option maxHeartbeats 2000000 in
theorem octetBack_walk (v0 : Value) (l : List OpD) (W : World) (hO : Ops W v0 l) : Calls Try.prog 7 #[v0] W (True_ W) := by
  obtain ⟨i0, hi, hz0, hz1, hz2⟩ := info_parts Try.info34
  obtain ⟨ao, c, rfl, g1, g2⟩ := hO.form
  unfold maxLen at g2
  have HO := Lib.hid hO
  clear hO
  by_cases hgr : isGreat l = true
  · go_enter Try.func7, Try.ntmps7
    go_wp2_with fail
    refine (alive_any W).mono ?_
    rintro e w0 ⟨rfl, hA⟩
    have hG := great_any _ l w0 (HO.out.fr hA)
    rw [hgr] at hG
    clear hgr
    go_wp2_with (go_at_call 12; refine hG.mono ?_; rintro e w' ⟨rfl, rfl⟩)
    go_ret
    exact ⟨rfl, hA⟩
  · have hgr' : isGreat l = false := by simpa using hgr
    have hl100 : l.length ≤ 100 := by unfold isGreat at hgr'; simp at hgr'; omega
    have hsum : sumS l ≤ 100000 := by unfold isGreat at hgr'; simp at hgr'; omega
    clear hgr
    go_enter Try.func7, Try.ntmps7
    go_wp2_with fail
    refine (alive_any W).mono ?_
    rintro e w0 ⟨rfl, hA⟩
    have hG := great_any _ l w0 (HO.out.fr hA)
    rw [hgr'] at hG
    clear hgr'
    have hI0 : KInv w0 (w0.alloc (.cells #[.slice none 0 0] 26)) (w0.heap.size + 1) w0.heap.size (.slice none 0 0) (.slice none 0 0) [] :=
      ⟨Wtr.new w0 _, World.ownsRow_nil _ _ _ _, by simp [Value.ownBlock], (Chg.refl _ w0).alloc _, Nat.le_refl _, by simp, by simp⟩
    have HI0 := Lib.hid hI0
    clear hI0
    go_wp2_with (go_at_call 12; refine hG.mono ?_; rintro e w' ⟨rfl, rfl⟩)
    go_loopw [5, 23] (fun u i wr => ∃ (k : Nat) (v : Value) (kl : List OpD), k ≤ l.length ∧ i = .int .i64 k ∧ KInv w0 wr (w0.heap.size + 1) w0.heap.size v u kl ∧ (bytesOf kl).length ≤ k * 100008 ∧ kl.length ≤ k)
      (fun _ i _ => l.length - (intOf i).toNat)
    case atStart => exact ⟨0, _, [], Nat.zero_le _, rfl, HI0.out, by simp [bytesOf], by simp⟩
    case round =>
      obtain ⟨k, v, kl, hk, rfl, hI, hlen, hkl⟩ := hrel
      have HI := Lib.hid hI
      clear hI
      by_cases hlt : k < l.length
      · obtain ⟨b, o, c', e1, hx⟩ := HO.out.cells k hlt
        injection e1 with e1 e2 e3
        subst e1
        have hx0 := hx.chg (hA.tr HI.out.old) id
        have hok := HO.out.ok _ (List.getElem_mem hlt)
        have hs := Nat.le_trans (sumS_mem (List.getElem_mem hlt)) hsum
        obtain ⟨x, hxx⟩ : ∃ x, x = l[k] := ⟨_, rfl⟩
        rw [← hxx] at hx hx0 hok hs
        obtain ⟨kind, size, n, s⟩ := x
        have h0 := hx0.c0
        have h1 := hx0.c1
        have h2 := hx0.c2
        have h3 := hx0.c3
        have n1 := hok.n1
        have n2 := hok.n2
        dsimp only at h0 h1 h2 h3 hs n1 n2
        have hlen2 : (bytesOf kl).length ≤ 100 * 100008 := Nat.le_trans hlen (Nat.mul_le_mul_right _ (by omega))
        have hwr := write_any ⟨kind, size, n, s⟩ _ _ v _ wr n1 n2 hs HI.out.wtr (by omega) HI.out.sz
        unfold OpD.val at hwr
        have HL := Lib.hid hlen
        have HX := Lib.hid hx
        clear hxx hx0 e2 e3 hlen hx
        obtain ⟨aou, Lu, cu, rfl, hLu⟩ := owns_name HI.out.all
        go_wp2_with fail
        refine hwr.mono ?_
        clear hwr
        rintro e w1 ⟨rfl, v1, hR⟩
        obtain ⟨r1, r2, r3, r4, r5⟩ := HI.out.wrote hR
        have hx1 := HX.out.chg (hA.tr r4) id
        have h0 := hx1.c0
        have h1 := hx1.c1
        have h2 := hx1.c2
        have h3 := hx1.c3
        dsimp only at h0 h1 h2 h3
        have hby := opBytes_le ⟨kind, size, n, s⟩ hs
        by_cases hw : okW ⟨kind, size, n, s⟩ = true
        · rw [hw]
          have hkb := HI.out.hb
          have hkk := HI.out.kept
          have hkx : Kept ⟨kind, size, n, s⟩ ∧ OpOk ⟨kind, size, n, s⟩ := ⟨⟨hw, n1, n2, hs⟩, hok⟩
          have HW := Lib.hid hkx
          clear hw hkx hx1
          go_wp2_with (refine wpList_append_own_any rfl (.tmp 31) (.tmp 36) 31 rfl (w0.heap.size + 1) 34 i0 (.agg #[.int .i64 0, .int .i64 0, .int .u64 0, .string ByteArray.empty]) 4 40 Try.underlying31 hi hz0 hz1 hz2 rfl (by decide) (.slice aou Lu cu) _ _ rfl (Chg.owns (S := fun _ => False) ((Chg.refl _ w1).alloc _) r2 (fun _ _ => id)) (some ⟨w1.heap.size, 0, none⟩) 1 1 [.int .i64 kind, .int .i64 size, .int .u64 n, .string s] rfl rfl (new_cells w1 _ _) (by simp [Value.oneCell']) (by unfold maxLen; omega) (by omega) (by simp; omega) ?_; intro u2 w3 hown3 hg3 _ hO3; obtain ⟨ao3, L3, c3, rfl, hL3⟩ := owns_name hown3)
          go_roundw
          case rel =>
            have hC3 : Chg (fun k => (Value.slice aou Lu cu).ownBlock = some k) w1 w3 := ((Chg.refl _ w1).alloc _).grown hg3 (fun k e => .inl e)
            refine ⟨k + 1, v1, kl ++ [⟨kind, size, n, s⟩], by omega, by go_num, ⟨?_, ?_, ?_, ?_, hkb, Nat.le_trans r5 hC3.size, ?_⟩, ?_, by simp; omega⟩
            · rw [bytesOf_snoc]
              exact r1.chg hC3 (fun e => by have := (r2.lt _ e).1; omega) (fun k hk e => r3 k hk e)
            · rw [List.length_append, cellsOf_snoc]
              exact hown3
            · intro q hq e
              rcases hO3 q e with e2 | e2
              · exact r3 q hq e2
              · have := (r1.owns.lt q hq).2
                simp at e2
                omega
            · exact r4.trans hC3 (fun _ _ h => h) (fun i hi e => by have := (r2.lt i e).1; omega)
            · intro y hy
              rcases List.mem_append.1 hy with hy | hy
              · exact hkk y hy
              · rw [List.mem_singleton.1 hy]
                exact HW.out
            · rw [bytesOf_snoc, List.length_append]
              have := HL.out
              omega
          case measure => first | (simp [intOf]; done) | (simp [intOf]; omega)
        · have hw' : okW ⟨kind, size, n, s⟩ = false := by simpa using hw
          have hb0 : opBytes ⟨kind, size, n, s⟩ = [] := opBytes_bad _ hw'
          rw [hb0, List.append_nil] at r1
          have HKK := Lib.hid (show KInv w0 w1 (w0.heap.size + 1) w0.heap.size v1 (.slice aou Lu cu) kl from ⟨r1, r2, r3, r4, HI.out.hb, r5, HI.out.kept⟩)
          rw [hw']
          clear hw hw' hb0 hby r1 r2 r3 r4 r5 hR hx1
          go_wp2
          go_roundw
          case rel => exact ⟨k + 1, v1, kl, by omega, by go_num, HKK.out, Nat.le_trans HL.out (Nat.mul_le_mul_right _ (Nat.le_succ k)), Nat.le_succ_of_le hkl⟩
          case measure => first | (simp [intOf]; done) | (simp [intOf]; omega)
      · obtain rfl : k = l.length := by omega
        have hl2 : (bytesOf kl).length ≤ 140737488355328 := by
          have := Nat.le_trans hlen (Nat.mul_le_mul_right 100008 hl100)
          omega
        have hkl100 : kl.length ≤ 100 := by omega
        have hb1 := bytes_any _ _ _ _ _ HI.out.wtr hl2
        have hkept := HI.out.kept
        have hall := HI.out.all
        have hCW := hA.tr HI.out.old
        obtain ⟨xs, hxs⟩ : ∃ xs, xs = bytesOf kl := ⟨_, rfl⟩
        rw [← hxs] at hb1 hl2
        have HXS := Lib.hid hxs
        have HK := Lib.hid hkept
        have HAll := Lib.hid hall
        have HCW := Lib.hid hCW
        obtain ⟨wo, hwo⟩ : ∃ wo : World, wo = wr := ⟨_, rfl⟩
        subst hwo
        clear hlen hlt hxs hkept hall hCW HI
        go_wp2_with fail
        refine hb1.mono ?_
        clear hb1
        rintro e wA ⟨vB, rfl, hoB, hCA⟩
        have hOps0 := Ops.of_owns (hCA.owns HAll.out (fun _ _ => id)) (fun x hx => (HK.out x hx).2)
        have HOps := Lib.hid hOps0
        have hrd := read_any vB xs wA (Sl.of_owns hoB) hl2
        have HoB := Lib.hid hoB
        obtain ⟨aok, Lk, ck, rfl, hLk⟩ := owns_name HAll.out
        have hLk100 : Lk ≤ 100 := by rw [hLk.out]; exact hkl100
        obtain ⟨aoB, LB, cB, rfl, hLB⟩ := owns_name hoB
        have hLB2 : LB ≤ 140737488355328 := by rw [hLB.out]; exact hl2
        clear hOps0 hoB
        go_wp2_with fail
        refine hrd.mono ?_
        clear hrd
        rintro e w2 ⟨rb, v2, rfl, hb2, hv2, hR0, hC2⟩
        have hI2 : RInv wA w2 rb v2 xs 0 := ⟨hR0, hC2, hb2, hv2⟩
        have HI2 := Lib.hid hI2
        clear hR0 hC2 hI2
        go_wp2_with fail
        go_loopw [44] (fun i wz => ∃ j : Nat, j ≤ Lk ∧ i = .int .i64 j ∧ RInv wA wz rb v2 xs (posK kl j)) (fun i _ => Lk - (intOf i).toNat)
        case atStart => exact ⟨0, Nat.zero_le _, rfl, HI2.out⟩
        case round =>
          obtain ⟨j, hj, rfl, hJ⟩ := hrel
          have HJ := Lib.hid hJ
          clear hJ
          by_cases hjl : j < Lk
          · obtain ⟨b, o, c', e1, hx⟩ := HOps.out.cells j (by rw [← hLk.out]; exact hjl)
            injection e1 with e1 e2 e3
            subst e1
            have hx := hx.chg HJ.out.old id
            have hjk : j < kl.length := by rw [← hLk.out]; exact hjl
            have hkx := (HK.out _ (List.getElem_mem hjk)).1
            obtain ⟨rest, hrest⟩ := bytesOf_drop kl j hjk
            have hok := okR_of kl[j] hkx.ok hkx.n1 hkx.n2 rest (posK kl j)
            have hnext := posK_succ kl j hjk
            have hro := readOp_any kl[j] rb v2 xs (posK kl j) wr hkx.s1 HJ.out.rdr
            rw [HXS.out, show (bytesOf kl).drop (posK kl j) = opBytes kl[j] ++ rest from hrest, hok.1, hok.2, ← hnext, ← HXS.out] at hro
            obtain ⟨x, hxx⟩ : ∃ x, x = kl[j] := ⟨_, rfl⟩
            rw [← hxx] at hx hro
            obtain ⟨kind, size, n, s⟩ := x
            unfold OpD.val at hro
            have h0 := hx.c0
            have h1 := hx.c1
            have h2 := hx.c2
            have h3 := hx.c3
            dsimp only at h0 h1 h2 h3
            clear hxx hx e2 e3 hok hnext hrest hkx hjk
            go_wp2_with fail
            refine hro.mono ?_
            clear hro
            rintro e w3 ⟨rfl, hR3, hC3⟩
            have HJ3 := HJ.out.read hR3 hC3
            go_wp2
            go_roundw
            case rel => exact ⟨j + 1, by omega, by go_num, HJ3⟩
            case measure => first | (simp [intOf]; done) | (simp [intOf]; omega)
          · obtain rfl : Lk = j := by omega
            have hJ := HJ.out
            rw [show posK kl Lk = xs.length by rw [hLk.out, posK_all, HXS.out]] at hJ
            have hEnd : ∀ q, Calls Try.prog 29 #[.pointer (some ⟨rb, 0, none⟩)] (wr.drewN q) fun e w' => e = .returned (.int .i64 0) ∧ ∃ n, w' = (wr.drewN q).drewN n := fun q => by
              have := end_any _ _ _ _ _ (hJ.rdr.fr ((Chg.refl _ wr).drewN q)); rw [if_pos rfl] at this; exact this
            have hEnd0 : Calls Try.prog 29 #[.pointer (some ⟨rb, 0, none⟩)] wr fun e w' => e = .returned (.int .i64 0) ∧ ∃ n, w' = wr.drewN n := by
              have := end_any _ _ _ _ _ hJ.rdr; rw [if_pos rfl] at this; exact this
            have hold := hJ.old
            have HHJ := Lib.hid hJ
            have HEnd := Lib.hid hEnd
            obtain ⟨wz, hwz⟩ : ∃ wz : World, wz = wr := ⟨_, rfl⟩
            subst hwz
            clear hJ hEnd hjl
            by_cases hB0 : LB = 0
            · subst hB0
              go_wp2_with fail
              refine hEnd0.mono ?_
              rintro e w4 ⟨rfl, q4, rfl⟩
              go_wp2_with fail
              refine (HEnd.out _).mono ?_
              rintro e w5 ⟨rfl, q5, rfl⟩
              go_wp2
              go_ret
              exact ⟨rfl, ((HCW.out.tr hCA).tr hold).drewN _⟩
            · have hBn : ((LB : Int) == 0) = false := by simp; omega
              have hxl : xs.length = LB := hLB.out.symm
              obtain ⟨aoS, cS, hSS, hSO, _, _, hcut⟩ := (Sl.of_owns (hold.owns HoB.out (fun _ _ => id))).slice 24 5 Try.underlying24 sizeOf_u8 0 (LB - 1) (Nat.zero_le _) (by rw [List.length_map, hxl]; omega)
              replace hcut := hcut rfl
              rw [show ((LB - 1 : Nat) : Int) = (LB : Int) - 1 by omega] at hcut
              rw [Nat.sub_zero] at hcut
              have hSS' : Sl wz (.slice aoS (LB - 1) cS) ((xs.take (LB - 1)).map B) := by
                rw [Nat.sub_zero, List.drop_zero] at hSS
                rw [List.map_take]
                exact hSS
              have HSS := Lib.hid hSS'
              have HXL := Lib.hid hxl
              have hLBpos : 0 < LB := by omega
              clear hSS hSS' hSO hB0 hxl
              go_wp2_with fail
              refine hEnd0.mono ?_
              rintro e w4 ⟨rfl, q4, rfl⟩
              have hrd3 := read_any (.slice aoS (LB - 1) cS) (xs.take (LB - 1)) (wz.drewN q4) (HSS.out.fr ((Chg.refl _ wz).drewN q4)) (by rw [List.length_take]; omega)
              go_wp2_with fail
              refine hrd3.mono ?_
              clear hrd3
              rintro e w5 ⟨sb, v3, rfl, hb3, hv3, hR0, hC3⟩
              have hI3 : RInv (wz.drewN q4) w5 sb v3 (xs.take (LB - 1)) 0 := ⟨hR0, hC3, hb3, hv3⟩
              have HI3 := Lib.hid hI3
              have HY := Lib.hid (show (xs.take (LB - 1)).length ≤ LB - 1 by rw [List.length_take]; omega)
              obtain ⟨ys, hys⟩ : ∃ ys, ys = xs.take (LB - 1) := ⟨_, rfl⟩
              rw [← hys] at HI3 HY
              clear hR0 hC3 hI3 hys
              go_wp2_with fail
              go_loopw [11, 77] (fun a i wr => ∃ (j pos : Nat) (whole : Bool), j ≤ Lk ∧ a = .bool whole ∧ i = .int .i64 j ∧ RInv (wz.drewN q4) wr sb v3 ys pos ∧ (whole = true → pos = posK kl j)) (fun _ i _ => Lk - (intOf i).toNat)
              case atStart => exact ⟨0, 0, true, Nat.zero_le _, rfl, rfl, HI3.out, fun _ => rfl⟩
              case round =>
                obtain ⟨j, pos, whole, hj, rfl, rfl, hJ, hpos⟩ := hrel
                have HJ := Lib.hid hJ
                clear hJ
                by_cases hjl : j < Lk
                · have hjk : j < kl.length := by rw [← hLk.out]; exact hjl
                  obtain ⟨b, o, c', e1, hx⟩ := HOps.out.cells j hjk
                  injection e1 with e1 e2 e3
                  subst e1
                  replace hx := hx.chg ((hold.drewN q4).tr HJ.out.old) id
                  cases whole with
                  | true =>
                    have hkx := (HK.out _ (List.getElem_mem hjk)).1
                    have hnext := posK_succ kl j hjk
                    have hro := readOp_any kl[j] sb v3 ys pos wr hkx.s1 HJ.out.rdr
                    have hpr := fun (h : okR (ys.drop pos) kl[j] = true) => (posR_of kl[j] hkx.ok (by have := hkx.n1; have := hkx.n2; omega) (ys.drop pos) pos h).1
                    rw [← hpos rfl] at hnext
                    obtain ⟨ok, hok⟩ : ∃ ok, ok = okR (ys.drop pos) kl[j] := ⟨_, rfl⟩
                    obtain ⟨pos', hpos'⟩ : ∃ p, p = posR (ys.drop pos) kl[j] pos := ⟨_, rfl⟩
                    rw [← hok, ← hpos', ← hnext] at hpr
                    rw [← hok, ← hpos'] at hro
                    have HPR := Lib.hid hpr
                    obtain ⟨x, hxx⟩ : ∃ x, x = kl[j] := ⟨_, rfl⟩
                    rw [← hxx] at hx hro
                    obtain ⟨kind, size, n, s⟩ := x
                    unfold OpD.val at hro
                    have h0 := hx.c0
                    have h1 := hx.c1
                    have h2 := hx.c2
                    have h3 := hx.c3
                    dsimp only at h0 h1 h2 h3
                    clear hxx hx e2 e3 hok hpos' hnext hkx hjk hpr hpos
                    go_wp2_with fail
                    refine hro.mono ?_
                    clear hro
                    rintro e w6 ⟨rfl, hR3, hC3⟩
                    have HJ3 := HJ.out.read hR3 hC3
                    cases ok with
                    | true =>
                      go_wp2
                      go_roundw
                      case rel => exact ⟨j + 1, pos', true, by omega, rfl, by go_num, HJ3, fun _ => HPR.out (by trivial)⟩
                      case measure => first | (simp [intOf]; done) | (simp [intOf]; omega)
                    | false =>
                      go_wp2
                      go_roundw
                      case rel => exact ⟨j + 1, pos', false, by omega, rfl, by go_num, HJ3, fun h => by cases h⟩
                      case measure => first | (simp [intOf]; done) | (simp [intOf]; omega)
                  | false =>
                    obtain ⟨x, hxx⟩ : ∃ x, x = kl[j] := ⟨_, rfl⟩
                    rw [← hxx] at hx
                    obtain ⟨kind, size, n, s⟩ := x
                    have h0 := hx.c0
                    have h1 := hx.c1
                    have h2 := hx.c2
                    have h3 := hx.c3
                    dsimp only at h0 h1 h2 h3
                    clear hxx hx e2 e3 hjk hpos
                    go_wp2
                    go_roundw
                    case rel => exact ⟨j + 1, pos, false, by omega, rfl, by go_num, HJ.out, fun h => by cases h⟩
                    case measure => first | (simp [intOf]; done) | (simp [intOf]; omega)
                · obtain rfl : Lk = j := by omega
                  have hw : whole = false := by
                    cases whole with
                    | false => rfl
                    | true =>
                      have h1 := hpos rfl
                      rw [hLk.out, posK_all, ← HXS.out, HXL.out] at h1
                      have h2 := HJ.out.rdr.le
                      have h3 := HY.out
                      omega
                  subst hw
                  have hfin := ((HCW.out.tr hCA).tr hold).tr (((Chg.refl _ wz).drewN q4).tr HJ.out.old)
                  have HF := Lib.hid hfin
                  clear hpos hfin
                  go_wp2
                  go_ret
                  exact ⟨rfl, HF.out⟩
end Go.Proofs.Ytjinbjbcfmhnmaa
