/- PickMask. -/
import Derived.Test.YtnjnajbdpaaikaaPnG
import Derived.Test.YtnjnajbdpaaikaaArO
import Derived.Deep.Slices
namespace Go.Proofs.Ytnjnajbdpaaikaa
section
open Go.RowKit Go.Shelf
theorem lx_snoc {w2 : World} {base t : Nat} {v2 : Value} {xs : List Int} {x : Int} {n : Nat} (h2 : w2.ownsRow base t 1 v2 n (xs.map I ++ [.int .i64 x])) (hn : n = xs.length + 1) : Own w2 base t v2 (xs ++ [x]) := by
  subst hn
  unfold Own
  rw [List.length_append, List.map_append]
  exact h2
/-- Two lists of the call's own. -/
structure TwoL (w0 W : World) (base : Nat) (v1 v2 : Value) (xs ys : List Int) : Prop where
  o1 : Own W base 2 v1 xs
  o2 : Own W base 2 v2 ys
  d : ∀ q, v1.ownBlock = some q → ¬ v2.ownBlock = some q
  ch : Chg (fun _ => False) w0 W
  lb : w0.heap.size ≤ base
theorem TwoL.zero {w0 : World} : TwoL w0 w0 w0.heap.size (.slice none 0 0) (.slice none 0 0) [] [] := ⟨Own.nil _ _ _, Own.nil _ _ _, fun q hq => by simp [Value.ownBlock] at hq, Chg.refl _ _, Nat.le_refl _⟩
section
variable {w0 W Wa w2 : World} {base : Nat} {v1 v2 v : Value} {xs ys : List Int} {x : Int} {n : Nat}
theorem TwoL.one (h : TwoL w0 W base v1 v2 xs ys) (hA : Chg (fun _ => False) W Wa) (hg : Wa.grownBy w2 v1.ownBlock) (h2 : w2.ownsRow base 2 1 v n (xs.map I ++ [.int .i64 x])) (hn : n = xs.length + 1)
    (hO : ∀ k, v.ownBlock = some k → v1.ownBlock = some k ∨ Wa.heap.size ≤ k) : TwoL w0 w2 base v v2 (xs ++ [x]) ys := by
  have X : Chg (fun k => v1.ownBlock = some k) W w2 := (Chg.mono hA (fun _ _ h => h.elim)).grown hg (fun k e => .inl e)
  have ha := hA.size
  exact ⟨lx_snoc h2 hn, h.o2.chg X (fun q hq e => h.d q e hq),
    fun q hq e => by
      rcases hO q hq with f | f
      · exact h.d q f e
      · have := (h.o2.lt q e).2; omega,
    h.ch.trans X (fun _ _ h => h) (fun i hi e => by have := (h.o1.lt i e).1; have := h.lb; omega), h.lb⟩
theorem TwoL.two (h : TwoL w0 W base v1 v2 xs ys) (hA : Chg (fun _ => False) W Wa) (hg : Wa.grownBy w2 v2.ownBlock) (h2 : w2.ownsRow base 2 1 v n (ys.map I ++ [.int .i64 x])) (hn : n = ys.length + 1)
    (hO : ∀ k, v.ownBlock = some k → v2.ownBlock = some k ∨ Wa.heap.size ≤ k) : TwoL w0 w2 base v1 v xs (ys ++ [x]) := by
  have X : Chg (fun k => v2.ownBlock = some k) W w2 := (Chg.mono hA (fun _ _ h => h.elim)).grown hg (fun k e => .inl e)
  have ha := hA.size
  exact ⟨h.o1.chg X (fun q hq e => h.d q hq e), lx_snoc h2 hn,
    fun q hq e => by
      rcases hO q e with f | f
      · exact h.d q hq f
      · have := (h.o1.lt q hq).2; omega,
    h.ch.trans X (fun _ _ h => h) (fun i hi e => by have := (h.o2.lt i e).1; have := h.lb; omega), h.lb⟩
end
theorem lst_vec {l : List Int} (h : l.length ≤ 4096) : lstE (vecB l) = 0 := by
  unfold lstE
  rw [chk_vec h]
  simp [vecB]
/-- A vector, compressed. -/
theorem cp_law {A : Ar} {c : List Int} (hA : Vec A) (hl : c.length = A.e.length) (h0 : ∀ x ∈ c, 0 ≤ x) (hs : sumL c ≤ 4096) : pgN (cpW (vecB c) A.s) A = 0 ∧ pgA (cpW (vecB c) A.s) A = ⟨A.k, [((cpy c 0).length : Int)], (cpy c 0).map fun x => A.e.getD x.toNat 0⟩ := by
  have hm := hA.len
  have hsh := hA.sh
  have hne : A.s ≠ [] := by rw [hsh]; simp
  have hS : cpS (vecB c) A.s = A.s := if_neg hne
  have hL : cpLong (vecB c) A.s = A.e.length := by unfold cpLong; rw [hS, hsh]; rfl
  have hC : cntL (vecB c) (cpLong (vecB c) A.s).toNat = c := if_neg (by simp [vecB])
  have hlen := cpy_length (l := c) 0 h0
  have hT : cpTo (vecB c) A.s = [((cpy c 0).length : Int)] := by unfold cpTo; rw [hC, hS, hsh]; rfl
  have hcl : (cpy c 0).length ≤ 4096 := by omega
  have hneg : (vecB c).e.any (fun n => decide (n < 0)) = false := by
    rw [List.any_eq_false]
    intro x hx
    have := h0 x hx
    simp
    omega
  have hE : cpE (vecB c) A.s = 0 := by
    unfold cpE
    rw [(chkB_iff.1 hA.chk).1, if_pos rfl, lst_vec (by omega), if_pos rfl, hneg, if_neg (by decide), if_neg (by rw [hL]; intro h; exact h.2 (by show (c.length : Int) = _; omega)), hC, hT, if_pos ⟨hs, shB_one hcl⟩]
  have hW : cpW (vecB c) A.s = ⟨[((cpy c 0).length : Int)], (List.range (cpy c 0).length).map (fun (i : Nat) => ((0 : Int), (cpy c 0).getD i 0)), 0⟩ := by
    unfold cpW
    rw [if_pos hE, hT, prodL_one]
    congr 1
    apply List.map_congr_left
    intro i hi
    have hi' : i < (cpy c 0).length := by simpa using hi
    unfold cpP
    rw [hC, if_neg hne]
    rw [Int.ediv_eq_zero_of_lt (by omega) (by omega), Int.emod_eq_of_lt (by omega) (by omega), Int.toNat_natCast]
    simp
  have hb : ∀ x ∈ cpy c 0, 0 ≤ x ∧ x < A.e.length := by
    intro x hx
    have := cpy_bd x hx
    omega
  have hgl := go_law (k := A.k) (s := [((cpy c 0).length : Int)]) (g := (List.range (cpy c 0).length).map (fun (i : Nat) => ((0 : Int), (cpy c 0).getD i 0))) (L := [A]) (chk_len hA.chk).2 (by simp [hA.chk]) (shB_one hcl) (by simp [prodL_one]) (by
    intro x hx
    obtain ⟨i, hi, rfl⟩ := List.mem_map.1 hx
    have hi' : i < (cpy c 0).length := by simpa using hi
    have := hb _ (List.getElem_mem hi')
    refine .inr ⟨0, A, rfl, rfl, ?_, ?_⟩ <;> simp only [getD_at hi'] <;> omega)
  unfold pgN pgA
  rw [hA.chk, hW]
  simp only [if_true]
  refine ⟨hgl.1, ?_⟩
  rw [hgl.2]
  congr 1
  apply List.ext_getElem
  · simp
  · intro i h2 h3
    have hi' : i < (cpy c 0).length := by simpa using h3
    simp [pickL, hi']
def ones (c : List Int) : List Int := (cpy c 0).map (· + 1)
theorem ones_snoc (c : List Int) (m : Int) : ones (c ++ [m]) = ones c ++ List.replicate m.toNat ((c.length : Int) + 1) := by
  unfold ones
  rw [cpy_app, List.map_append]
  simp [cpy]
theorem ones_len {c : List Int} (h : ∀ x ∈ c, x = 0 ∨ x = 1) : (ones c).length ≤ c.length ∧ sumL c ≤ c.length ∧ sumL c = (ones c).length := by
  have h0 : ∀ x ∈ c, 0 ≤ x := fun x hx => by rcases h x hx with h | h <;> omega
  have h1 := cpy_length (l := c) 0 h0
  have h2 : sumL c ≤ c.length := by
    clear h0 h1
    induction c with
    | nil => simp [sumL]
    | cons a r ih =>
      have := ih (fun x hx => h x (List.mem_cons_of_mem _ hx))
      have := h a (by simp)
      rw [sumL, List.length_cons]
      omega
  unfold ones
  rw [List.length_map]
  omega
theorem ones_mem {c : List Int} : ∀ x ∈ ones c, 1 ≤ x ∧ x ≤ c.length := by
  intro x hx
  obtain ⟨y, hy, rfl⟩ := List.mem_map.1 hx
  have := cpy_bd y hy
  omega
theorem cpC (u v : Value) (A : Ar) (c : List Int) (w : World) (hL : Ara w u (vecB c)) (hA : Ara w v A) (h : Vec A) (hl : c.length = A.e.length) (h0 : ∀ x ∈ c, 0 ≤ x) (hs : sumL c ≤ 4096) : Calls Try.prog 25 #[u, v] w (GaveAE w ⟨A.k, [((cpy c 0).length : Int)], (cpy c 0).map fun x => A.e.getD x.toNat 0⟩ 0) := by
  have hm := h.len
  have hi := compress_any u v (vecB c) A w hL hA (by show c.length ≤ _; omega) (by omega)
  rw [(cp_law h hl h0 hs).1, (cp_law h hl h0 hs).2] at hi
  exact hi
theorem ixO (u v : Value) (A : Ar) (c : List Int) (w : World) (hA : Ara w u A) (hL : Axs w v [⟨false, vecB (ones c)⟩]) (h : Vec A) (hl : c.length = A.e.length) (h1 : ∀ x ∈ c, x = 0 ∨ x = 1) : Calls Try.prog 16 #[u, v] w (GaveAE w ⟨A.k, [((cpy c 0).length : Int)], (cpy c 0).map fun x => A.e.getD x.toNat 0⟩ 0) := by
  have hm := h.len
  have hol := (ones_len h1).1
  have hi := index_any u v A [⟨false, vecB (ones c)⟩] w hA hL (by omega) (by intro x hx; rw [List.mem_singleton.1 hx]; show (ones c).length ≤ _; omega) (by simp)
  have hlw := ix_law h.chk h.one (z := ones c) (by omega) (by rw [← hl]; exact ones_mem)
  have he : ixV A.e (ones c) = (cpy c 0).map fun x => A.e.getD x.toNat 0 := by
    unfold ixV ones
    rw [List.map_map]
    apply List.map_congr_left
    intro x _
    show A.e.getD (x + 1 - 1).toNat 0 = A.e.getD x.toNat 0
    rw [Int.add_sub_cancel]
  rw [hlw.1, hlw.2, he] at hi
  unfold ones at hi
  rw [List.length_map] at hi
  exact hi
end
section
open Go.ChangeShapes Go.WideShapes Go.ChangeAt Go.RowKit
def B (u : UInt8) : Value := .int .u8 (u.toNat : Int)
theorem B_ofNat (n : Nat) : B (UInt8.ofNat n) = .int .u8 (IntKind.u8.wrap (n : Int)) := by
  rw [IntKind.wrap_u8]
  simp [B]
theorem byte_of_wf {z : Int} (h : (Lit.int .u8 z).wf = true) : Value.int .u8 z = B (UInt8.ofNat z.toNat) := by
  have hb := wf_u8' h
  obtain ⟨n, rfl⟩ := Int.eq_ofNat_of_zero_le hb.1
  rw [B_ofNat, IntKind.wrap_u8, Int.toNat_natCast]
  congr 1
  omega

set_option maxRecDepth 100000 in
/-- A slice of bytes that came in. -/
theorem open_bytes {H : Type} {enc : TypeId × Value → H} {W : World} {base : Nat} {v : Value} {d : DataW H} {p : List MemPlace} (hv : Value.okWide Try.prog W .any base 69 v)
    (h : DataW.Trod enc Try.prog W 0 (fun _ => true) true 69 v d p) : ∃ xs : List UInt8, Sl W v (xs.map B) := by
  obtain ⟨a0, len, cap, rfl⟩ := okWide_slice Try.underlying69 hv
  obtain ⟨fuel, hf⟩ := h
  rcases open_ints Try.underlying69 Try.underlying5 (by kernel_rfl) hf with ⟨hcs, _⟩ | ⟨x, l, c, zs, hcs, _, hl, hm, hz, _, hcell, hwz⟩
  · simp [Value.cells] at hcs
    obtain ⟨rfl, rfl, rfl⟩ := hcs
    exact ⟨[], ⟨⟨none, 0, rfl, Nat.le_refl _, Nat.zero_le _, fun _ => rfl⟩, fun j u hu => by simp at hu⟩⟩
  · simp [Value.cells] at hcs
    obtain ⟨rfl, rfl, rfl⟩ := hcs
    have hz' : zs.length = cap := by simpa using hz
    have hlen : (((zs.take len).map fun z => UInt8.ofNat z.toNat).map B).length = len := by simp; omega
    refine ⟨_, ⟨⟨some x, cap, by rw [hlen], by rw [hlen]; exact hl, hm, fun h => (by cases h)⟩, fun j u hu => ?_⟩⟩
    rw [hlen]
    have hj : j < len := by
      have := (List.getElem?_eq_some_iff.1 hu).1
      omega
    have hc := hcell j (by omega)
    obtain ⟨b, o, sp⟩ := x
    have hspot : sp = none := by
      have h0 := hcell 0 (by omega)
      simp only [Addr.add, if_pos] at h0
      unfold World.cell? at h0
      cases sp with
      | none => rfl
      | some q => split at h0 <;> simp at h0
    subst hspot
    refine ⟨b, o, cap, rfl, ?_⟩
    rw [Addr.add_lit] at hc
    rw [hc]
    have hjz : j < zs.length := by omega
    simp only [List.map_map, List.getElem?_map, List.getElem?_take, if_pos hj, List.getElem?_eq_getElem hjz, Option.map_some, Function.comp] at hu
    rw [← Option.some.inj hu, List.getD_eq_getElem?_getD, List.getElem?_eq_getElem hjz, Option.getD_some]
    exact congrArg some (byte_of_wf (hwz _ (List.getElem_mem hjz)))

end
section
open Go.RowKit Go.Shelf
theorem bit_all : ∀ n : Fin 256, wrap64 (bits BinOp.and IntKind.u8 ((n.val : Nat) : Int) 1) = 0 ∨ wrap64 (bits BinOp.and IntKind.u8 ((n.val : Nat) : Int) 1) = 1 := by decide +kernel
theorem bit_two (x : UInt8) : wrap64 (bits BinOp.and IntKind.u8 (x.toNat : Int) 1) = 0 ∨ wrap64 (bits BinOp.and IntKind.u8 (x.toNat : Int) 1) = 1 := bit_all ⟨x.toNat, x.toNat_lt⟩
set_option maxRecDepth 100000 in
set_option maxHeartbeats 4000000 in
theorem pickMask_walk (v : Value) (A : Ar) (vb : Value) (bs : List UInt8) (W : World) (h : OkArr W v A) (hbs : Sl W vb (bs.map B)) : Calls Try.prog 9 #[v, vb] W (True_ W) := by
  have hA := h.1
  clear h
  have HBS := Lib.hid hbs
  obtain ⟨⟨bo, bc, hbf, hbl, hbm, _⟩, _⟩ := id hbs
  rw [List.length_map] at hbf hbl
  subst hbf
  clear hbs hbl hbm
  have hal := alive_any
  obtain ⟨vt, ve, hv, ht, he⟩ := id hA
  subst hv
  obtain ⟨ta, ct, rfl, _⟩ := ht.form
  obtain ⟨ae, ce, rfl, _⟩ := he.form
  have hb := BoxA.new (A := A) 25 hA
  have HC := Lib.hid ((Chg.refl (fun _ => False) W).alloc (.cells #[.int .i64 A.k, .slice ta A.s.length ct, .slice ae A.e.length ce] 25))
  clear ht he
  go_enter Try.func9, Try.ntmps9
  go_wp2_with fail
  refine (hal _).mono ?_
  clear hal
  rintro e9 w1 ⟨rfl, hC1⟩
  replace hb := hb.fr hC1
  replace HC := Lib.hid (HC.out.tr hC1)
  clear hC1 hA
  obtain ⟨x0, hx0⟩ : ∃ x3, W.heap.size = x3 := ⟨_, rfl⟩
  rw [hx0] at hb
  obtain ⟨sa, cs, sb, cb, ⟨y0, y1, y2⟩, hb1⟩ := id hb
  obtain ⟨_, l1, l2⟩ := cell_two w1 (.int .i64 A.k) (.slice sa A.s.length cs) (.slice sb A.e.length cb) 25
  have hCl := (Chg.refl (fun _ => False) w1).alloc (.cells #[.int .i64 A.k, .slice sa A.s.length cs, .slice sb A.e.length cb] 25)
  obtain ⟨g, hg⟩ : ∃ g, grt15 A = g := ⟨_, rfl⟩
  have hg1 := great15_one sa sb cs cb _ A _ ⟨l1, l2⟩ g hg
  replace HC := Lib.hid (HC.out.tr hCl)
  replace hb := hb.fr hCl
  clear l1 l2 hCl
  cases g with
  | true =>
    clear hb hg
    go_wp2_with fail
    refine hg1.mono ?_
    clear hg1
    rintro e9 w2 ⟨rfl, rfl⟩
    go_wp2
    go_ret
    exact ⟨rfl, HC.out⟩
  | false =>
    have hle := grt15_not hg
    go_wp2_with fail
    refine hg1.mono ?_
    clear hg1 y0 y1 y2 hb1 hg hx0
    rintro e9 w2 ⟨rfl, rfl⟩
    generalize w1.alloc (.cells #[.int .i64 A.k, .slice sa A.s.length cs, .slice sb A.e.length cb] 25) = w2 at *
    obtain ⟨sa, cs, sb, cb, ⟨y0, y1, y2⟩, hb1⟩ := id hb
    have hck := check_any _ A _ hb1 (by omega)
    cases hc : chkB A with
    | false =>
      rw [show chkE A = 110 by unfold chkE; rw [hc]; rfl] at hck
      clear hc hb hle
      go_wp2_with fail
      refine hck.mono ?_
      clear hck
      rintro e9 w3 ⟨rfl, hC3⟩
      go_wp2
      go_ret
      exact ⟨rfl, HC.out.tr hC3⟩
    | true =>
      rw [show chkE A = 0 by unfold chkE; rw [hc]; rfl] at hck
      by_cases h1 : A.s.length = 1
      · have HVA := Lib.hid (⟨hc, h1⟩ : Vec A)
        have d1 : ((A.s.length : Int) != 1) = false := by simp [h1]
        have HLE := Lib.hid hle
        clear hc h1 hle
        go_wp2_with fail
        refine hck.mono ?_
        clear hck y0 y1 y2 hb1
        rintro e9 w3 ⟨rfl, hC3⟩
        replace hb := hb.fr hC3
        replace HC := Lib.hid (HC.out.tr hC3)
        clear hC3
        obtain ⟨sa, cs, sb, cb, ⟨y0, y1, y2⟩, hb1⟩ := id hb
        obtain ⟨n, hn⟩ : ∃ n, A.e.length = n := ⟨_, rfl⟩
        have HN := Lib.hid hn
        obtain ⟨i0, hi, hz0, hz1, hz2⟩ := info_parts info_long
        have hT0 := TwoL.zero (w0 := w3)
        go_wp2_with fail
        rw [hn] at y2
        clear hb1 d1 hn
        go_loopw [6, 7, 37] (fun v6 v7 i wr => ∃ j : Nat, j ≤ n ∧ i = .int .i64 j ∧ (∃ M a b, v6 = a ∧ v7 = b ∧ M.length = j ∧ (∀ x ∈ M, x = 0 ∨ x = 1) ∧ TwoL w3 wr w3.heap.size a b M (ones M))) (fun _ _ i _ => n - (intOf i).toNat)
        case atStart => exact ⟨0, Nat.zero_le _, rfl, [], _, _, rfl, rfl, rfl, by simp, hT0⟩
        case round =>
          obtain ⟨j, hj, rfl, M, a, b, rfl, rfl, hMl, hM1, hT⟩ := hrel
          clear hT0
          obtain ⟨al, Ll, cl, hal2, -⟩ := own_nm hT.o1
          obtain ⟨bl, Kl, dl, hbl2, -⟩ := own_nm hT.o2
          subst hal2 hbl2
          replace y0 := hT.ch.cell y0 id
          replace y1 := hT.ch.cell y1 id
          replace y2 := hT.ch.cell y2 id
          have HT := Lib.hid hT
          have HM := Lib.hid (And.intro hMl hM1)
          clear hT hMl hM1
          by_cases hlt : j < n
          · have hlt' : (j : Int) < (n : Int) := by omega
            have hm1 : n - (j + 1) < n - j := by omega
            have HM9 := Lib.hid (show M.length ≤ 1500 ∧ (ones M).length ≤ 1500 ∧ w3.heap.size ≤ wr.heap.size by
              have h1 := HM.out.1
              have h2 := (ones_len HM.out.2).1
              have h3 := HN.out
              have h4 := HLE.out.1
              have h5 := HT.out.ch.size
              omega)
            have HM1 := Lib.hid hm1
            clear hm1 hj
            by_cases hjb : j < bs.length
            · have hjb' : decide (j < bs.length) = true := decide_eq_true hjb
              have hjb2 : (j : Int) < (bs.length : Int) := by omega
              obtain ⟨b0, o0, c0, e1, hx⟩ := HBS.out.cells j (B bs[j]) (by simp [hjb])
              rw [List.length_map] at e1
              injection e1 with e1 _ _
              subst e1
              replace hx := HT.out.ch.cell (HC.out.cell hx id) id
              unfold B at hx
              rcases bit_two bs[j] with hm | hm
              ·
                have wj : IntKind.i64.wrap ((j : Int) + 1) = (j : Int) + 1 := IntWalk.i64_in _ (by have := HM9.out; have := HM.out.1; omega)
                go_wp2_with (at_builtin; refine wpList_append_own_any rfl (.tmp 50) (.tmp 52) 23 rfl w3.heap.size 2 i0 (.int .i64 0) 1 8 Try.underlying23 hi hz0 hz1 hz2 rfl (by decide) (.slice al Ll cl) M.length (M.map I) rfl (HT.out.o1.alloc _) (some ⟨wr.heap.size, 0, none⟩) 1 1 [.int .i64 0] rfl rfl (fun j u hu => ⟨_, rfl, cell_one_new wr _ _ j u hu⟩) (by simp [Value.oneCell']) (by have := HM9.out; unfold maxLen; omega) (by have := HM9.out; omega) (by have := HM9.out; simp; omega) ?_; intro v2 w4 hown2 hg2 _ hO2; have hT2 := HT.out.one ((Chg.refl _ wr).alloc _) hg2 hown2 rfl hO2)
                go_wp2
                go_roundw
                case rel => exact ⟨v2, .slice bl Kl dl, .int .i64 j, .int .i64 0, .int .i64 ((j : Int) + 1), ⟨j + 1, hlt, by go_num, M ++ [0], by simp [HM.out.1], by
                  intro x hx
                  rcases List.mem_append.1 hx with h | h
                  · exact HM.out.2 x h
                  · exact .inl (List.mem_singleton.1 h), by
                  rw [ones_snoc]
                  simpa using hT2⟩, rfl, rfl, rfl, rfl, rfl⟩
                case measure => exact HM1.out
              ·
                have wj : IntKind.i64.wrap ((j : Int) + 1) = (j : Int) + 1 := IntWalk.i64_in _ (by have := HM9.out; have := HM.out.1; omega)
                go_wp2_with (at_builtin; first | (refine wpList_append_own_any rfl (.tmp 50) (.tmp 52) 23 rfl w3.heap.size 2 i0 (.int .i64 0) 1 8 Try.underlying23 hi hz0 hz1 hz2 rfl (by decide) (.slice al Ll cl) M.length (M.map I) rfl (HT.out.o1.alloc _) (some ⟨wr.heap.size, 0, none⟩) 1 1 [.int .i64 1] rfl rfl (fun j u hu => ⟨_, rfl, cell_one_new wr _ _ j u hu⟩) (by simp [Value.oneCell']) (by have := HM9.out; unfold maxLen; omega) (by have := HM9.out; omega) (by have := HM9.out; simp; omega) ?_; intro v2 w4 hown2 hg2 _ hO2; have hT2 := HT.out.one ((Chg.refl _ wr).alloc _) hg2 hown2 rfl hO2; have hs4 := Lib.hid (show w3.heap.size ≤ w4.heap.size from hT2.ch.size); have HT2 := Lib.hid hT2; clear hT2) | (refine wpList_append_own_any rfl (.tmp 56) (.tmp 59) 23 rfl w3.heap.size 2 i0 (.int .i64 0) 1 8 Try.underlying23 hi hz0 hz1 hz2 rfl (by decide) (.slice bl Kl dl) (ones M).length ((ones M).map I) rfl (HT2.out.o2.alloc _) (some ⟨w4.heap.size, 0, none⟩) 1 1 [.int .i64 ((j : Int) + 1)] rfl rfl (fun j u hu => ⟨_, rfl, cell_one_new w4 _ _ j u hu⟩) (by simp [Value.oneCell']) (by have := HM9.out; unfold maxLen; omega) (by have := HM9.out; omega) (by have := hs4.out; simp; omega) ?_; intro v3 w5 hown3 hg3 _ hO3; have hT3 := HT2.out.two ((Chg.refl _ w4).alloc _) hg3 hown3 rfl hO3))
                go_wp2
                go_roundw
                case rel => exact ⟨v2, v3, .int .i64 j, .int .i64 1, .int .i64 ((j : Int) + 1), ⟨j + 1, hlt, by go_num, M ++ [1], by simp [HM.out.1], by
                  intro x hx
                  rcases List.mem_append.1 hx with h | h
                  · exact HM.out.2 x h
                  · exact .inr (List.mem_singleton.1 h), by
                  rw [ones_snoc, HM.out.1]
                  simpa using hT3⟩, rfl, rfl, rfl, rfl, rfl⟩
                case measure => exact HM1.out
            · have hjb' : decide (j < bs.length) = false := decide_eq_false hjb
              have hjb2 : ¬ (j : Int) < (bs.length : Int) := by omega
              clear hjb
              have wj : IntKind.i64.wrap ((j : Int) + 1) = (j : Int) + 1 := IntWalk.i64_in _ (by have := HM9.out; have := HM.out.1; omega)
              go_wp2_with (at_builtin; refine wpList_append_own_any rfl (.tmp 50) (.tmp 52) 23 rfl w3.heap.size 2 i0 (.int .i64 0) 1 8 Try.underlying23 hi hz0 hz1 hz2 rfl (by decide) (.slice al Ll cl) M.length (M.map I) rfl (HT.out.o1.alloc _) (some ⟨wr.heap.size, 0, none⟩) 1 1 [.int .i64 0] rfl rfl (fun j u hu => ⟨_, rfl, cell_one_new wr _ _ j u hu⟩) (by simp [Value.oneCell']) (by have := HM9.out; unfold maxLen; omega) (by have := HM9.out; omega) (by have := HM9.out; simp; omega) ?_; intro v2 w4 hown2 hg2 _ hO2; have hT2 := HT.out.one ((Chg.refl _ wr).alloc _) hg2 hown2 rfl hO2)
              go_wp2
              go_roundw
              case rel => exact ⟨j + 1, hlt, by go_num, M ++ [0], _, _, rfl, rfl, by simp [HM.out.1], by
                intro x hx
                rcases List.mem_append.1 hx with h | h
                · exact HM.out.2 x h
                · exact .inl (List.mem_singleton.1 h), by
                rw [ones_snoc]
                simpa using hT2⟩
              case measure => exact HM1.out
          · obtain rfl : j = n := by omega
            have hjn : ¬ (j : Int) < (j : Int) := by omega
            have hb4 := hb.fr HT.out.ch
            clear hb y0 y1 y2 hj hlt
            obtain ⟨sa, cs, sb, cb, ⟨y0, y1, y2⟩, hb1⟩ := id hb4
            obtain ⟨CC, hCC⟩ : ∃ CC : Ar, (⟨A.k, [((cpy M 0).length : Int)], (cpy M 0).map fun x => A.e.getD x.toNat 0⟩ : Ar) = CC := ⟨_, rfl⟩
            have HCC := Lib.hid hCC
            have HKl := Lib.hid (show CC.e.length = (ones M).length ∧ CC.s.length = 1 by rw [← hCC]; exact ⟨by simp [ones], rfl⟩)
            have HML := Lib.hid (show M.length = A.e.length ∧ M.length ≤ 4096 ∧ (ones M).length ≤ 4096 by
              have h1 := HM.out.1
              have h2 := (ones_len HM.out.2).1
              have h3 := HN.out
              have h4 := HLE.out.1
              omega)
            clear hCC
            go_wp2_with fail
            go_cut [10, 11] (fun s10 s11 wx => ∃ x, s10 = .pointer (some ⟨x, 0, none⟩) ∧ s11 = .int .i64 0 ∧ BoxA wx x CC ∧ Chg (fun _ => False) wr wx)
            case first =>
              have HV := Lib.hid (show ∀ w', Chg (fun _ => False) wr w' → Calls Try.prog 20 #[.slice al Ll cl] w' (GaveA w' (vecB M)) from fun w' h => avector_any _ M w' (HT.out.o1.ls.fr h) (by have := HML.out; omega))
              have HR := Lib.hid (show ∀ w' u v, Ara w' u (vecB M) → Ara w' v A → Calls Try.prog 25 #[u, v] w' (GaveAE w' CC 0) from fun w' u v h1 h2 => by
                rw [← HCC.out]
                exact cpC u v A M w' h1 h2 HVA.out HML.out.1 (fun x hx => by rcases HM.out.2 x hx with h | h <;> omega) (by have := (ones_len HM.out.2).2.1; have := HML.out; omega))
              clear hb4
              have KP := Lib.hid (show ∀ w', Chg (fun _ => False) wr w' → (Chg (fun _ => False) wr w' ∧ w'.cell? ⟨x0, 0, none⟩ = some (.int .i64 A.k) ∧ w'.cell? ⟨x0, 1, none⟩ = some (.slice sa A.s.length cs) ∧ w'.cell? ⟨x0, 2, none⟩ = some (.slice sb A.e.length cb)) from fun w' h => ⟨h, h.cell y0 id, h.cell y1 id, h.cell y2 id⟩)
              have HA := Lib.hid (show ∀ w', Chg (fun _ => False) wr w' → Ara w' (.agg #[.int .i64 A.k, .slice sa A.s.length cs, .slice sb A.e.length cb]) A from fun w' h => hb1.fr h)
              go_region_held3 (fun w' => Chg (fun _ => False) wr w' ∧ w'.cell? ⟨x0, 0, none⟩ = some (.int .i64 A.k) ∧ w'.cell? ⟨x0, 1, none⟩ = some (.slice sa A.s.length cs) ∧ w'.cell? ⟨x0, 2, none⟩ = some (.slice sb A.e.length cb)) ((refine KP.out _ ?_; (
                repeat (first | (with_reducible exact Chg.refl _ _) | (with_reducible assumption) | (with_reducible refine chg_drew' ?_) | (with_reducible refine chg_alloc' ?_) | (with_reducible refine Chg.tr ?_ hC7) | (with_reducible refine Chg.tr ?_ hC6) | (with_reducible refine Chg.tr ?_ hC5) | (refine Chg.setCell ?_ (.inr (by simp only []; omega)) _))
                ))) (first
                | (go_at_call 20
                   with_reducible refine (HV.out _ ?_).mono ?_
                   · repeat (first | (with_reducible exact Chg.refl _ _) | (with_reducible assumption) | (with_reducible refine chg_drew' ?_) | (with_reducible refine chg_alloc' ?_) | (with_reducible refine Chg.tr ?_ hC7) | (with_reducible refine Chg.tr ?_ hC6) | (with_reducible refine Chg.tr ?_ hC5) | (refine Chg.setCell ?_ (.inr (by simp only []; omega)) _))
                   rintro e9 w5 ⟨v5, rfl, ho5, hC5⟩
                   obtain ⟨a5, c5, a6, c6, rfl, _, _⟩ := ara_new ho5
                   simp only [vecB, List.length_cons, List.length_nil, Nat.zero_add] at ho5 ⊢
                   have hs5 : wr.heap.size ≤ w5.heap.size := (by have := hC5.size; (try simp at this); omega)
                   (first
                     | (have hBc := hBno; have hB5 := hBc.fr hC5)
                     | (have hBc := hBno.fr ((Chg.refl (fun _ => False) _).drew); have hB5 := hBc.fr hC5)
                     | (have hBc := hBno.fr ((Chg.refl (fun _ => False) _).alloc (.cells #[] 2)); have hB5 := hBc.fr hC5)
                     | (have hBc := hBno.fr (((Chg.refl (fun _ => False) _).alloc (.cells #[] 2)).drew); have hB5 := hBc.fr hC5)
                     | (have hBc := Bx.new wr (.int .i64 0) (.slice none 0 0) (.slice none 0 0) 25; have hB5 := hBc.fr hC5)
                     | (have hBc := (Bx.new wr (.int .i64 0) (.slice none 0 0) (.slice none 0 0) 25).fr ((Chg.refl (fun _ => False) _).drew); have hB5 := hBc.fr hC5)
                     | (have hBc := (Bx.new wr (.int .i64 0) (.slice none 0 0) (.slice none 0 0) 25).fr ((Chg.refl (fun _ => False) _).alloc (.cells #[] 2)); have hB5 := hBc.fr hC5)
                     | (have hBc := (Bx.new wr (.int .i64 0) (.slice none 0 0) (.slice none 0 0) 25).fr (((Chg.refl (fun _ => False) _).alloc (.cells #[] 2)).drew); have hB5 := hBc.fr hC5)
                     | (have hBc := Bx.at1 wr (.cells #[] 2) 25; have hB5 := hBc.fr hC5)
                     | (have hBc := (Bx.at1 wr (.cells #[] 2) 25).fr ((Chg.refl (fun _ => False) _).drew); have hB5 := hBc.fr hC5)
                     | skip)
                   )
                | (go_at_call 25
                   with_reducible refine (HR.out _ _ _ ?_ ?_).mono ?_
                   · exact ho5.ara.fr (by repeat (first | (with_reducible exact Chg.refl _ _) | (with_reducible assumption) | (with_reducible refine chg_drew' ?_) | (with_reducible refine chg_alloc' ?_) | (with_reducible refine Chg.tr ?_ hC7) | (with_reducible refine Chg.tr ?_ hC6) | (with_reducible refine Chg.tr ?_ hC5) | (refine Chg.setCell ?_ (.inr (by simp only []; omega)) _)))
                   · refine HA.out _ ?_
                     repeat (first | (with_reducible exact Chg.refl _ _) | (with_reducible assumption) | (with_reducible refine chg_drew' ?_) | (with_reducible refine chg_alloc' ?_) | (with_reducible refine Chg.tr ?_ hC7) | (with_reducible refine Chg.tr ?_ hC6) | (with_reducible refine Chg.tr ?_ hC5) | (refine Chg.setCell ?_ (.inr (by simp only []; omega)) _))
                   rintro e9 w7 ⟨v7, rfl, ho7, hC7⟩
                   obtain ⟨a7, c7, a8, c8, rfl, _, _⟩ := ara_new ho7
                   have hs7 : w5.heap.size ≤ w7.heap.size := (by have := hC7.size; (try simp at this); omega)
                   (first
                     | (have hBc := hB5; have hB7 := hBc.fr hC7)
                     | (have hBc := hB5.fr ((Chg.refl (fun _ => False) _).drew); have hB7 := hBc.fr hC7)
                     | (have hBc := hB5.fr ((Chg.refl (fun _ => False) _).alloc (.cells #[] 2)); have hB7 := hBc.fr hC7)
                     | (have hBc := hB5.fr (((Chg.refl (fun _ => False) _).alloc (.cells #[] 2)).drew); have hB7 := hBc.fr hC7)
                     | (have hBc := Bx.new w5 (.int .i64 0) (.slice none 0 0) (.slice none 0 0) 25; have hB7 := hBc.fr hC7)
                     | (have hBc := (Bx.new w5 (.int .i64 0) (.slice none 0 0) (.slice none 0 0) 25).fr ((Chg.refl (fun _ => False) _).drew); have hB7 := hBc.fr hC7)
                     | (have hBc := (Bx.new w5 (.int .i64 0) (.slice none 0 0) (.slice none 0 0) 25).fr ((Chg.refl (fun _ => False) _).alloc (.cells #[] 2)); have hB7 := hBc.fr hC7)
                     | (have hBc := (Bx.new w5 (.int .i64 0) (.slice none 0 0) (.slice none 0 0) 25).fr (((Chg.refl (fun _ => False) _).alloc (.cells #[] 2)).drew); have hB7 := hBc.fr hC7)
                     | (have hBc := Bx.at1 w5 (.cells #[] 2) 25; have hB7 := hBc.fr hC7)
                     | (have hBc := (Bx.at1 w5 (.cells #[] 2) 25).fr ((Chg.refl (fun _ => False) _).drew); have hB7 := hBc.fr hC7)
                     | skip)
                   (first
                    | (have hl7 := Lib.hid hBc.lt
                       obtain ⟨z0, z1, z2, f0, f1, f2⟩ := id hB7)
                    | skip))
                | fail)
              all_goals
                rename_i hHd
                go_wp2_with fail
                go_meet
                refine ⟨_, rfl, rfl, ?_, hHd.1⟩
                first
                | exact BoxA.new (A := CC) 25 ho7.ara
                | exact BoxA.set (A := CC) hB7 ho7 hl7.out
            case rest =>
              obtain ⟨xc, rfl, rfl, hbc, hCc⟩ := hcut
              obtain ⟨q7, hw7⟩ : ∃ q7 : World, q7 = wc := ⟨_, rfl⟩
              subst hw7
              replace hb4 := hb4.fr hCc
              have HL2 := Lib.hid (HT.out.o2.ls.fr hCc)
              replace HC := Lib.hid ((HC.out.tr HT.out.ch).tr hCc)
              clear y0 y1 y2 hb1 hCc
              obtain ⟨sa, cs, sb, cb, ⟨y0, y1, y2⟩, hb1⟩ := id hb4
              obtain ⟨oz, hoz⟩ : ∃ oz, ones M = oz := ⟨_, rfl⟩
              have HOZ := Lib.hid hoz
              rw [hoz] at HL2 HKl HML
              clear hoz
              go_wp2_with fail
              go_cut [12, 13] (fun s12 s13 wx => ∃ x, s12 = .pointer (some ⟨x, 0, none⟩) ∧ s13 = .int .i64 0 ∧ BoxA wx x CC ∧ Chg (fun _ => False) q7 wx)
              case first =>
                have HV := Lib.hid (show ∀ w', Chg (fun _ => False) q7 w' → Calls Try.prog 20 #[.slice bl Kl dl] w' (GaveA w' (vecB oz)) from fun w' h => avector_any _ oz w' (HL2.out.fr h) (by have := HML.out; omega))
                have HR := Lib.hid (show ∀ w' u v, Ara w' u A → Axs w' v [⟨false, ⟨1, [(oz.length : Int)], oz⟩⟩] → Calls Try.prog 16 #[u, v] w' (GaveAE w' CC 0) from fun w' u v h1 h2 => by
                  rw [← HCC.out]
                  rw [show (⟨1, [(oz.length : Int)], oz⟩ : Ar) = vecB (ones M) by rw [HOZ.out]; rfl] at h2
                  exact ixO u v A M w' h1 h2 HVA.out HML.out.1 HM.out.2)
                clear hb4 hbc
                have KP := Lib.hid (show ∀ w', Chg (fun _ => False) q7 w' → (Chg (fun _ => False) q7 w' ∧ w'.cell? ⟨x0, 0, none⟩ = some (.int .i64 A.k) ∧ w'.cell? ⟨x0, 1, none⟩ = some (.slice sa A.s.length cs) ∧ w'.cell? ⟨x0, 2, none⟩ = some (.slice sb A.e.length cb)) from fun w' h => ⟨h, h.cell y0 id, h.cell y1 id, h.cell y2 id⟩)
                have HA := Lib.hid (show ∀ w', Chg (fun _ => False) q7 w' → Ara w' (.agg #[.int .i64 A.k, .slice sa A.s.length cs, .slice sb A.e.length cb]) A from fun w' h => hb1.fr h)
                go_region_held3 (fun w' => Chg (fun _ => False) q7 w' ∧ w'.cell? ⟨x0, 0, none⟩ = some (.int .i64 A.k) ∧ w'.cell? ⟨x0, 1, none⟩ = some (.slice sa A.s.length cs) ∧ w'.cell? ⟨x0, 2, none⟩ = some (.slice sb A.e.length cb)) ((refine KP.out _ ?_; (
                  repeat (first | (with_reducible exact Chg.refl _ _) | (with_reducible assumption) | (with_reducible refine chg_drew' ?_) | (with_reducible refine chg_alloc' ?_) | (with_reducible refine Chg.tr ?_ hC7) | (with_reducible refine Chg.tr ?_ hC6) | (with_reducible refine Chg.tr ?_ hC5) | (refine Chg.setCell ?_ (.inr (by simp only []; omega)) _))
                  ))) (first
                  | (go_at_call 20
                     with_reducible refine (HV.out _ ?_).mono ?_
                     · repeat (first | (with_reducible exact Chg.refl _ _) | (with_reducible assumption) | (with_reducible refine chg_drew' ?_) | (with_reducible refine chg_alloc' ?_) | (with_reducible refine Chg.tr ?_ hC7) | (with_reducible refine Chg.tr ?_ hC6) | (with_reducible refine Chg.tr ?_ hC5) | (refine Chg.setCell ?_ (.inr (by simp only []; omega)) _))
                     rintro e9 w5 ⟨v5, rfl, ho5, hC5⟩
                     obtain ⟨a5, c5, a6, c6, rfl, _, _⟩ := ara_new ho5
                     simp only [vecB, List.length_cons, List.length_nil, Nat.zero_add] at ho5 ⊢
                     have hs5 : q7.heap.size ≤ w5.heap.size := (by have := hC5.size; (try simp at this); omega)
                     (first
                       | (have hBc := hBno; have hB5 := hBc.fr hC5)
                       | (have hBc := hBno.fr ((Chg.refl (fun _ => False) _).drew); have hB5 := hBc.fr hC5)
                       | (have hBc := hBno.fr ((Chg.refl (fun _ => False) _).alloc (.cells #[] 2)); have hB5 := hBc.fr hC5)
                       | (have hBc := hBno.fr (((Chg.refl (fun _ => False) _).alloc (.cells #[] 2)).drew); have hB5 := hBc.fr hC5)
                       | (have hBc := Bx.new q7 (.int .i64 0) (.slice none 0 0) (.slice none 0 0) 25; have hB5 := hBc.fr hC5)
                       | (have hBc := (Bx.new q7 (.int .i64 0) (.slice none 0 0) (.slice none 0 0) 25).fr ((Chg.refl (fun _ => False) _).drew); have hB5 := hBc.fr hC5)
                       | (have hBc := (Bx.new q7 (.int .i64 0) (.slice none 0 0) (.slice none 0 0) 25).fr ((Chg.refl (fun _ => False) _).alloc (.cells #[] 2)); have hB5 := hBc.fr hC5)
                       | (have hBc := (Bx.new q7 (.int .i64 0) (.slice none 0 0) (.slice none 0 0) 25).fr (((Chg.refl (fun _ => False) _).alloc (.cells #[] 2)).drew); have hB5 := hBc.fr hC5)
                       | (have hBc := Bx.at1 q7 (.cells #[] 2) 25; have hB5 := hBc.fr hC5)
                       | (have hBc := (Bx.at1 q7 (.cells #[] 2) 25).fr ((Chg.refl (fun _ => False) _).drew); have hB5 := hBc.fr hC5)
                       | skip)
                     )
                  | (go_at_call 21
                     (with_reducible refine (at_any _ _ _ _ _ _ _ _).mono ?_)
                     rintro e9 w6 ⟨rfl, hC6⟩
                     have hA6 : Ara w6 _ (⟨1, [(oz.length : Int)], oz⟩ : Ar) := ho5.ara.fr (by
                       repeat (first | (with_reducible exact Chg.refl _ _) | (with_reducible assumption) | (with_reducible refine chg_drew' ?_) | (with_reducible refine chg_alloc' ?_) | (with_reducible refine Chg.tr ?_ hC7) | (with_reducible refine Chg.tr ?_ hC6) | (with_reducible refine Chg.tr ?_ hC5) | (refine Chg.setCell ?_ (.inr (by simp only []; omega)) _))
                       )
                     have hs6 : w5.heap.size ≤ w6.heap.size := (by have := hC6.size; (try simp at this); omega)
                     (first
                       | (have hBc := hB5; have hB6 := hBc.fr hC6)
                       | (have hBc := hB5.fr ((Chg.refl (fun _ => False) _).drew); have hB6 := hBc.fr hC6)
                       | (have hBc := hB5.fr ((Chg.refl (fun _ => False) _).alloc (.cells #[] 2)); have hB6 := hBc.fr hC6)
                       | (have hBc := hB5.fr (((Chg.refl (fun _ => False) _).alloc (.cells #[] 2)).drew); have hB6 := hBc.fr hC6)
                       | (have hBc := Bx.new w5 (.int .i64 0) (.slice none 0 0) (.slice none 0 0) 25; have hB6 := hBc.fr hC6)
                       | (have hBc := (Bx.new w5 (.int .i64 0) (.slice none 0 0) (.slice none 0 0) 25).fr ((Chg.refl (fun _ => False) _).drew); have hB6 := hBc.fr hC6)
                       | (have hBc := (Bx.new w5 (.int .i64 0) (.slice none 0 0) (.slice none 0 0) 25).fr ((Chg.refl (fun _ => False) _).alloc (.cells #[] 2)); have hB6 := hBc.fr hC6)
                       | (have hBc := (Bx.new w5 (.int .i64 0) (.slice none 0 0) (.slice none 0 0) 25).fr (((Chg.refl (fun _ => False) _).alloc (.cells #[] 2)).drew); have hB6 := hBc.fr hC6)
                       | (have hBc := Bx.at1 w5 (.cells #[] 2) 25; have hB6 := hBc.fr hC6)
                       | (have hBc := (Bx.at1 w5 (.cells #[] 2) 25).fr ((Chg.refl (fun _ => False) _).drew); have hB6 := hBc.fr hC6)
                       | skip)
                     )
                  | (go_at_call 16
                     with_reducible refine (HR.out _ _ _ ?_ ?_).mono ?_
                     · refine HA.out _ ?_
                       repeat (first | (with_reducible exact Chg.refl _ _) | (with_reducible assumption) | (with_reducible refine chg_drew' ?_) | (with_reducible refine chg_alloc' ?_) | (with_reducible refine Chg.tr ?_ hC7) | (with_reducible refine Chg.tr ?_ hC6) | (with_reducible refine Chg.tr ?_ hC5) | (refine Chg.setCell ?_ (.inr (by simp only []; omega)) _))
                     ·
                       first
                       | exact axs_at hA6 rfl (by repeat (first | (with_reducible exact Chg.refl _ _) | (with_reducible assumption) | (with_reducible refine chg_drew' ?_) | (with_reducible refine chg_alloc' ?_) | (with_reducible refine Chg.tr ?_ hC7) | (with_reducible refine Chg.tr ?_ hC6) | (with_reducible refine Chg.tr ?_ hC5) | (refine Chg.setCell ?_ (.inr (by simp only []; omega)) _)))
                       | exact axs_at (hA6.fr ((Chg.refl _ _).alloc (.cells #[.int .i64 0, .slice none 0 0, .slice none 0 0] 25))) (World.size_alloc _ _) (by repeat (first | (with_reducible exact Chg.refl _ _) | (with_reducible assumption) | (with_reducible refine chg_drew' ?_) | (with_reducible refine chg_alloc' ?_) | (with_reducible refine Chg.tr ?_ hC7) | (with_reducible refine Chg.tr ?_ hC6) | (with_reducible refine Chg.tr ?_ hC5) | (refine Chg.setCell ?_ (.inr (by simp only []; omega)) _)))
                     rintro e9 w7 ⟨v7, rfl, ho7, hC7⟩
                     obtain ⟨a7, c7, a8, c8, rfl, _, _⟩ := ara_new ho7
                     have hs7 : w6.heap.size ≤ w7.heap.size := (by have := hC7.size; (try simp at this); omega)
                     (first
                       | (have hBc := hB6; have hB7 := hBc.fr hC7)
                       | (have hBc := hB6.fr ((Chg.refl (fun _ => False) _).drew); have hB7 := hBc.fr hC7)
                       | (have hBc := hB6.fr ((Chg.refl (fun _ => False) _).alloc (.cells #[.bool false, .int .i64 1, .slice a5 1 c5, .slice a6 oz.length c6] 39)); have hB7 := hBc.fr hC7)
                       | (have hBc := hB6.fr (((Chg.refl (fun _ => False) _).alloc (.cells #[.bool false, .int .i64 1, .slice a5 1 c5, .slice a6 oz.length c6] 39)).drew); have hB7 := hBc.fr hC7)
                       | (have hBc := Bx.new w6 (.int .i64 0) (.slice none 0 0) (.slice none 0 0) 25; have hB7 := hBc.fr hC7)
                       | (have hBc := (Bx.new w6 (.int .i64 0) (.slice none 0 0) (.slice none 0 0) 25).fr ((Chg.refl (fun _ => False) _).drew); have hB7 := hBc.fr hC7)
                       | (have hBc := (Bx.new w6 (.int .i64 0) (.slice none 0 0) (.slice none 0 0) 25).fr ((Chg.refl (fun _ => False) _).alloc (.cells #[.bool false, .int .i64 1, .slice a5 1 c5, .slice a6 oz.length c6] 39)); have hB7 := hBc.fr hC7)
                       | (have hBc := (Bx.new w6 (.int .i64 0) (.slice none 0 0) (.slice none 0 0) 25).fr (((Chg.refl (fun _ => False) _).alloc (.cells #[.bool false, .int .i64 1, .slice a5 1 c5, .slice a6 oz.length c6] 39)).drew); have hB7 := hBc.fr hC7)
                       | (have hBc := Bx.at1 w6 (.cells #[.bool false, .int .i64 1, .slice a5 1 c5, .slice a6 oz.length c6] 39) 25; have hB7 := hBc.fr hC7)
                       | (have hBc := (Bx.at1 w6 (.cells #[.bool false, .int .i64 1, .slice a5 1 c5, .slice a6 oz.length c6] 39) 25).fr ((Chg.refl (fun _ => False) _).drew); have hB7 := hBc.fr hC7)
                       | skip)
                     (first
                      | (have hl7 := Lib.hid hBc.lt
                         obtain ⟨z0, z1, z2, f0, f1, f2⟩ := id hB7)
                      | skip))
                  | fail)
                all_goals
                  rename_i hHd
                  go_wp2_with fail
                  go_meet
                  refine ⟨_, rfl, rfl, ?_, hHd.1⟩
                  first
                  | exact BoxA.new (A := CC) 25 ho7.ara
                  | exact BoxA.set (A := CC) hB7 ho7 hl7.out
              case rest =>
                obtain ⟨xd, rfl, rfl, hbd, hCc⟩ := hcut
                replace hbc := hbc.fr hCc
                replace HC := Lib.hid (HC.out.tr hCc)
                clear y0 y1 y2 hb1 hb4 hCc
                obtain ⟨sa, cs, sb, cb, ⟨y0, y1, y2⟩, hb1⟩ := id hbc
                obtain ⟨sa2, cs2, sb2, cb2, ⟨p0, p1, p2⟩, hb2⟩ := id hbd
                have h1 := isC _ _ CC _ hb1 hb2 (by have := HKl.out; have := HML.out; omega)
                have dk : (((CC.e.length : Nat) : Int) == ((Kl : Nat) : Int)) = true := by
                  have hk : Kl = oz.length := by
                    obtain ⟨ao, c, e, _⟩ := HL2.out.form
                    injection e
                  rw [HKl.out.1, hk]
                  simp
                go_wp2_with fail
                refine h1.mono ?_
                clear h1 y0 y1 y2 hb1 p0 p1 p2 hb2 hbd
                rintro e9 w11 ⟨rfl, hC11⟩
                replace hbc := hbc.fr hC11
                replace HC := Lib.hid (HC.out.tr hC11)
                clear hC11
                obtain ⟨sa, cs, sb, cb, ⟨y0, y1, y2⟩, hb1⟩ := id hbc
                go_wp2
                go_ret
                exact ⟨rfl, HC.out⟩
      · have d1 : ((A.s.length : Int) != 1) = true := by
          rw [bne_iff_ne]
          omega
        clear hc hb hle h1
        go_wp2_with fail
        refine hck.mono ?_
        clear hck
        rintro e9 w3 ⟨rfl, hC3⟩
        replace y1 := hC3.cell y1 id
        go_wp2
        go_ret
        exact ⟨rfl, HC.out.tr hC3⟩
end
end Go.Proofs.Ytnjnajbdpaaikaa
