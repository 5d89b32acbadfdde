/- NoteLogs: a statement's log out of any payloads, and what it has done, are the document's; payloads stay, and what is answered is new memory. -/
import Derived.Test.YtpiboaoifcajdaaNuF
import Derived.Test.YtpiboaoifcajdaaNtH
namespace Go.Proofs.Ytpiboaoifcajdaa
open Go.RowKit Go.Shelf

theorem great_not {ps : List (List UInt8)} (h : greatB ps = false) : ps.length ≤ 150 ∧ ∀ xs ∈ ps, xs.length ≤ 100 := by
  unfold greatB at h
  rw [Bool.or_eq_false_iff, decide_eq_false_iff_not, List.any_eq_false] at h
  refine ⟨by omega, fun xs hx => ?_⟩
  have := h.2 xs hx
  simp at this
  exact this
/-- A row of rows, kept while another block turns. -/
theorem own9 {wr wa w2 : World} {B0 g : Nat} {t : TypeId} {v9 : Value} {n : Nat} {us : List Value} (h : wr.ownsRow B0 t 1 v9 n us) (h1 : Chg (fun _ => False) wr wa) (g1 : wa.grownBy w2 (some g)) (hg : wr.heap.size ≤ g) : w2.ownsRow B0 t 1 v9 n us := by
  have c1 : Chg (fun q => q = g) wa w2 := (Chg.refl _ _).grown g1 (fun k e => .inl (by cases e; rfl))
  exact (h1.trans c1 (T := fun q => q = g) (fun _ _ h => h.elim) (fun _ _ h => h)).owns h (fun k hk e => by have := (h.lt k hk).2; omega)
theorem rows_chg {wr wa w2 wb w3 : World} {v9 : Value} (h1 : Chg (fun _ => False) wr wa) (g1 : wa.grownBy w2 (some wr.heap.size)) (h2 : Chg (fun _ => False) w2 wb) (g2 : wb.grownBy w3 v9.ownBlock) : Chg (fun q => q = wr.heap.size ∨ v9.ownBlock = some q) wr w3 := by
  have c1 : Chg (fun q => q = wr.heap.size) wa w2 := (Chg.refl _ _).grown g1 (fun k e => .inl (by cases e; rfl))
  have c2 : Chg (fun q => v9.ownBlock = some q) wb w3 := (Chg.refl _ _).grown g2 (fun k e => .inl e)
  exact ((h1.trans c1 (T := fun q => q = wr.heap.size) (fun _ _ h => h.elim) (fun _ _ h => h)).trans h2 (T := fun q => q = wr.heap.size) (fun _ _ h => h) (fun _ _ h => h.elim)).trans c2 (fun _ _ h => .inl h) (fun _ _ h => .inr h)
theorem take_mem : ∀ (ps : List (List UInt8)) (x : Nt), x ∈ takeN ps → ∃ p ∈ ps, decE p = 0 ∧ x = noteP p
  | [], x, h => by unfold takeN at h; cases h
  | p :: r, x, h => by
    unfold takeN at h
    split at h
    · rename_i hd
      split at h
      · cases h
      · split at h
        · rw [List.mem_singleton] at h; exact ⟨p, List.mem_cons_self, hd, h⟩
        · rcases List.mem_cons.1 h with h | h
          · exact ⟨p, List.mem_cons_self, hd, h⟩
          · obtain ⟨q, hq, h2⟩ := take_mem r x h
            exact ⟨q, List.mem_cons_of_mem _ hq, h2⟩
    · cases h
theorem take_len : ∀ ps : List (List UInt8), (takeN ps).length ≤ ps.length
  | [] => Nat.le_refl _
  | p :: r => by
    have := take_len r
    unfold takeN
    split
    · split
      · simp
      · split
        · simp
        · rw [List.length_cons, List.length_cons]; omega
    · simp
theorem note_mem {s : Int} {ps : List (List UInt8)} {x : Nt} (h : x ∈ noteN s ps) : x.ok ∧ (x.k ≤ 5 ∧ 1 ≤ x.k) ∧ x.a ≤ 1048576 ∧ 0 ≤ x.a := by
  unfold noteN at h
  split at h
  · obtain ⟨p, _, hd, rfl⟩ := take_mem _ _ h
    have := dec_k hd
    exact ⟨noteP_ok p, ⟨this.2.1, this.1⟩, this.2.2.2, this.2.2.1⟩
  · cases h
theorem note_len (s : Int) (ps : List (List UInt8)) : (noteN s ps).length ≤ ps.length := by
  unfold noteN
  split
  · have := take_len ps.tail
    rw [List.length_tail] at this
    omega
  · simp
theorem fil_rev (l : List Nt) : (fil l).reverse = l.reverse.filter fun x => decide (x.k ≠ 4 ∧ x.k ≠ 5) := by
  unfold fil
  rw [List.filter_reverse]
/-- A log stays while blocks ahead of it turn, or behind it. -/
theorem log_lo {S : Nat → Prop} {A C : World} {lb mb base : Nat} {t : St} {v : Value} (h : LogAt A lb mb base t v) (hC : Chg S A C) (hS : ∀ q, S q → q < mb) : LogAt C lb mb base t v :=
  h.chg hC (fun e => by have := hS _ e; omega) (fun e => by have := hS _ e; have := h.lt1; omega) (fun q hq e => by have := hS _ e; have := (h.own.lt q hq).1; have := h.lt1; have := h.lt2; omega)
theorem log_hi {S : Nat → Prop} {A C : World} {lb mb base : Nat} {t : St} {v : Value} (h : LogAt A lb mb base t v) (hC : Chg S A C) (hS : ∀ q, S q → A.heap.size ≤ q) : LogAt C lb mb base t v :=
  have hl : lb < A.heap.size := cell_lt h.c0
  h.chg hC (fun e => by have := hS _ e; have := h.lt1; omega) (fun e => by have := hS _ e; omega) (fun q hq e => by have := hS _ e; have := (h.own.lt q hq).2; omega)
theorem log_fr {A C : World} {lb mb base : Nat} {t : St} {v : Value} (h : LogAt A lb mb base t v) (hC : Chg (fun _ => False) A C) : LogAt C lb mb base t v := log_hi h hC (fun _ e => e.elim)
theorem pay_k {W w3 wo : World} {us : List Value} {v : Value} {ps : List (List UInt8)} (h : Pay W v ps) (hC : Chg (fun _ => False) W w3) (hK : Chg (RowsB us) w3 wo) (hB : ∀ q, RowsB us q → W.heap.size ≤ q) : Pay wo v ps :=
  h.same fun q hq => (hK.block q (Nat.lt_of_lt_of_le hq hC.size) (fun e => by have := hB q e; omega)).trans (hC.block q hq id)
/-- Notes whose kinds may be written. -/
def WrtN (w : World) (v : Value) (n : Nat) : Prop := ∀ j, j < n → ∃ b o c x, v = .slice (some ⟨b, o, none⟩) n c ∧ w.cell? ⟨b, o + j * 4, none⟩ = some (.int .i64 x) ∧ w.frozen? ⟨b, o + j * 4, none⟩ = false
theorem WrtN.of {w : World} {base : Nat} {v : Value} {l : List Nt} (h : w.ownsRow base 23 4 v l.length (flatN l)) : WrtN w v l.length := by
  intro j hj
  obtain ⟨b, o, c, e, hc⟩ := (Nts.of_owns h).cells j hj
  refine ⟨b, o, c, _, e, hc.c0, ?_⟩
  rcases h.2 with ⟨h0, h1⟩ | ⟨g, cap, cur, h0, _, hg, _⟩
  · omega
  · rw [h0] at e
    injection e with e _ _
    injection e with e
    injection e with e e2 _
    subst e e2
    unfold World.frozen?
    simp only
    rw [hg]
    simp
theorem WrtN.chg {S : Nat → Prop} {w w' : World} {v : Value} {n : Nat} (h : WrtN w v n) (hC : Chg S w w') (hn : ∀ k, v.ownBlock = some k → ¬ S k) : WrtN w' v n := by
  intro j hj
  obtain ⟨b, o, c, x, e, hc, hf⟩ := h j hj
  have hb : ¬ S b := hn b (by rw [e]; rfl)
  exact ⟨b, o, c, x, e, hC.cell hc hb, hC.frozen hc hf hb⟩
theorem WrtN.set {w : World} {v : Value} {n : Nat} (h : WrtN w v n) (p : Addr) (y : Int) : WrtN (w.setCell p (.int .i64 y)) v n := by
  intro j hj
  obtain ⟨b, o, c, x, e, hc, hf⟩ := h j hj
  by_cases hp : p = ⟨b, o + j * 4, none⟩
  · subst hp
    exact ⟨b, o, c, y, e, World.cell?_setCell_same' _ _ _ (by rw [hc]; rfl), by rw [World.frozen?_setCell]; exact hf⟩
  · exact ⟨b, o, c, x, e, by rw [World.cell?_setCell_other _ _ _ _ hp]; exact hc, by rw [World.frozen?_setCell]; exact hf⟩
/-- What loop 1 keeps. -/
def Own1 (W : World) (ps : List (List UInt8)) (i : Nat) (us : List Value) (v9 : Value) (wr : World) : Prop :=
  us.length = i ∧ wr.ownsRow W.heap.size 24 1 v9 i us ∧ OwnR wr W.heap.size us (ps.take i) ∧ (∀ u ∈ us, ∀ q, u.ownBlock = some q → v9.ownBlock ≠ some q) ∧ Chg (fun _ => False) W wr
theorem Own1.start (W : World) (ps : List (List UInt8)) : Own1 W ps 0 [] (.slice none 0 0) W := ⟨rfl, World.ownsRow_nil _ _ _ _, OwnR.nil _ _, fun u h => absurd h (by simp), Chg.refl _ _⟩
theorem Own1.step {W wr wa w2 wb w3 : World} {ps : List (List UInt8)} {i : Nat} {us : List Value} {v9 v2 v9' : Value} {xs : List UInt8} {m : Nat} (h : Own1 W ps i us v9 wr) (hi : ∃ h : i < ps.length, ps[i]'h = xs ∧ xs.length = m) (h1 : Chg (fun _ => False) wr wa) (g1 : wa.grownBy w2 (some wr.heap.size)) (h2 : Chg (fun _ => False) w2 wb) (g2 : wb.grownBy w3 v9.ownBlock)
    (o2 : w2.ownsRow W.heap.size 5 1 v2 (0 + m) ([] ++ xs.map B)) (b2 : ∀ q, v2.ownBlock = some q → some wr.heap.size = some q ∨ wa.heap.size ≤ q) (b9' : ∀ q, v9'.ownBlock = some q → v9.ownBlock = some q ∨ wb.heap.size ≤ q)
    (o9 : w3.ownsRow W.heap.size 24 1 v9' (i + 1) (us ++ [v2])) : Own1 W ps (i + 1) (us ++ [v2]) v9' w3 := by
  obtain ⟨hl, ho, hr, hap, hC⟩ := h
  obtain ⟨hi, rfl, rfl⟩ := hi
  rw [Nat.zero_add, List.nil_append] at o2
  have hs := h1.size
  obtain ⟨m1, m2⟩ := OwnR.more (xs := ps[i]) hr hap (fun q hq => (ho.lt q hq).2) h1 g1 h2 g2 o2 (fun q hq => by
    rcases b2 q hq with e | e
    · cases e; exact Nat.le_refl _
    · omega) b9'
  refine ⟨by rw [List.length_append, hl]; rfl, o9, ?_, m2, hC.trans (rows_chg h1 g1 h2 g2) (fun _ _ h => h) (fun k hk e => ?_)⟩
  · rw [List.take_succ_eq_append_getElem hi]; exact m1
  · rcases e with e | e
    · have := hC.size; omega
    · have := (ho.lt k e).1; omega
theorem own_le {W wr w2 : World} {g : Nat} (h : Chg (fun _ => False) W wr) (o : Obj) (g1 : (wr.alloc o).grownBy w2 (some g)) (o2 : Obj) : W.heap.size ≤ (w2.alloc o2).heap.size := by
  have h1 := h.size
  have h2 := g1.size
  simp at h2 ⊢
  omega
set_option maxRecDepth 100000 in
set_option maxHeartbeats 8000000 in
theorem noteLogs_walk (s : Int) (v : Value) (ps : List (List UInt8)) (a b : Int) (W : World) (_h : (Lit.int .i64 s).wf = true) (hP : Pay W v ps) (ha : (Lit.int .i64 a).wf = true) (hb : (Lit.int .i64 b).wf = true) : Calls Try.prog 6 #[.int .i64 s, v, .int .i64 a, .int .i64 b] W (True_ W) := by
  clear _h
  have HA := Lib.hid (show In64 a from wf_i64' ha)
  have HB := Lib.hid (show In64 b from wf_i64' hb)
  clear ha hb
  have hform : ∃ ao c, v = .slice ao ps.length c := by
    obtain ⟨vs, h1, h2, _⟩ := hP
    obtain ⟨ao, c, e, _⟩ := h1.form
    exact ⟨ao, c, by rw [e, h2]⟩
  obtain ⟨pa, pc, rfl⟩ := hform
  have hgr := great9_any _ ps W hP
  obtain ⟨g, hg⟩ : ∃ g, greatB ps = g := ⟨_, rfl⟩
  rw [hg] at hgr
  have HP := Lib.hid hP
  have HG := Lib.hid hg
  clear hP hg
  obtain ⟨n, hn⟩ : ∃ n, ps.length = n := ⟨_, rfl⟩
  rw [hn] at hgr HP ⊢
  have HN := Lib.hid hn
  clear hn
  cases g with
  | true =>
    go_enter Try.func6, Try.ntmps6
    go_wp2_with fail
    refine hgr.mono ?_
    clear hgr
    rintro e9 w1 ⟨rfl, e1⟩
    obtain rfl : W = w1 := e1.symm
    go_wp2
    go_ret
    exact ⟨rfl, Chg.refl _ _⟩
  | false =>
    have HGR := Lib.hid (great_not HG.out)
    obtain ⟨i0, hi, hz0, hz1, hz2⟩ := info_parts Try.info5
    obtain ⟨i1, hj, hy0, hy1, hy2⟩ := info_parts info_bytes
    go_enter Try.func6, Try.ntmps6
    go_wp2_with fail
    refine hgr.mono ?_
    clear hgr
    rintro e9 w1 ⟨rfl, e1⟩
    obtain rfl : W = w1 := e1.symm
    go_wp2
    go_loopw [9, 31] (fun v9 vi wr => ∃ (i : Nat) (us : List Value) (ao : Option Addr) (cp : Nat), i ≤ n ∧ vi = .int .i64 i ∧ v9 = .slice ao i cp ∧ Own1 W ps i us (.slice ao i cp) wr) (fun _ vi _ => n - (intOf vi).toNat)
    case atStart => exact ⟨0, [], none, 0, Nat.zero_le _, rfl, rfl, Own1.start W ps⟩
    case round =>
      obtain ⟨i, us, ao, cp, hin, rfl, rfl, hO1⟩ := hrel
      have HO1 := Lib.hid hO1
      clear hO1
      by_cases hlt : i < n
      · have hd : decide (i < n) = true := decide_eq_true hlt
        have hil : i < ps.length := by have := HN.out; omega
        obtain ⟨pb, po, u, eu, hcu, hsu⟩ := (HP.out.fr HO1.out.2.2.2.2).at hil
        subst eu
        obtain ⟨xs, hxs⟩ : ∃ xs, ps[i]'hil = xs := ⟨_, rfl⟩
        rw [hxs] at hsu
        obtain ⟨m, hm⟩ : ∃ m, xs.length = m := ⟨_, rfl⟩
        have HIX := Lib.hid (show ∃ h : i < ps.length, ps[i]'h = xs ∧ xs.length = m from ⟨hil, hxs, hm⟩)
        obtain ⟨au, cu, rfl, _⟩ := hsu.form
        rw [List.length_map, hm] at hsu hcu
        have hpb : pb < wr.heap.size := cell_lt hcu
        have HML := Lib.hid (show (xs.map B).length = m * 1 by rw [List.length_map, hm, Nat.mul_one])
        have HSRC := Lib.hid ((hsu.fr ((Chg.refl _ wr).alloc (.cells #[] 5))).src)
        have HFIT := Lib.hid (show 0 + m ≤ maxLen ∧ (0 + m) * 1 ≤ 140737488355328 by have := HGR.out.2 xs (by rw [← hxs]; exact List.getElem_mem hil); unfold maxLen; omega)
        have HFIT2 := Lib.hid (show i + 1 ≤ maxLen ∧ (i + 1) * 24 ≤ 140737488355328 by have := HGR.out.1; unfold maxLen; omega)
        have HE0 := Lib.hid (World.ownsRow_lit (base := W.heap.size) (size := 1) (e := 5) wr #[] 0 HO1.out.2.2.2.2.size (Nat.zero_le _) rfl)
        have HLE := Lib.hid (show W.heap.size ≤ (wr.alloc (.cells #[] 5)).heap.size by have := HO1.out.2.2.2.2.size; simp; omega)
        have b1 : (0 : Int) ≤ (i : Int) := Int.natCast_nonneg i
        have b2 : (i : Int) < (n : Int) := Int.ofNat_lt.2 hlt
        have kw : IntKind.i64.wrap ((i : Int) + 1) = (i : Int) + 1 := IntWalk.i64_in _ (by have := HGR.out.1; have := HN.out; omega)
        have HLT := Lib.hid hlt
        clear hlt hil hsu hm hin hxs
        go_wp2_with (at_builtin; first
          | (refine wpList_append_own_any rfl (.tmp 35) (.tmp 39) 24 rfl W.heap.size 5 i0 (.int .u8 0) 1 1 Try.underlying24 hi hz0 hz1 hz2 rfl (by decide) (.slice (some ⟨wr.heap.size, 0, none⟩) 0 0) 0 [] rfl HE0.out au m cu (xs.map B) rfl HML.out HSRC.out (by simp [B, Value.oneCell']) HFIT.out.1 HFIT.out.2 HLE.out ?_; intro v2 w2 hown2 hg2 _ hO2; obtain ⟨a2, L2, c2, rfl, _⟩ := owns_name hown2; have hO9 := (own9 HO1.out.2.1 ((Chg.refl _ wr).alloc (.cells #[] 5)) hg2 (Nat.le_refl _)).alloc (.cells #[.slice a2 L2 c2] 24); have hle2 := own_le HO1.out.2.2.2.2 (.cells #[] 5) hg2 (.cells #[.slice a2 L2 c2] 24))
          | (refine wpList_append_own_any rfl (.tmp 34) (.tmp 41) 36 rfl W.heap.size 24 i1 (.slice none 0 0) 1 24 und_pays hj hy0 hy1 hy2 rfl (by decide) (.slice ao i cp) i us rfl hO9 (some ⟨w2.heap.size, 0, none⟩) 1 1 [.slice a2 L2 c2] rfl rfl (fun j u hu => ⟨_, rfl, cell_one_new w2 _ _ j u hu⟩) (by simp [Value.oneCell']) HFIT2.out.1 HFIT2.out.2 hle2 ?_; intro v3 w3 hown3 hg3 _ hO3; have hM := HO1.out.step HIX.out ((Chg.refl _ wr).alloc (.cells #[] 5)) hg2 ((Chg.refl _ w2).alloc (.cells #[.slice a2 L2 c2] 24)) hg3 hown2 hO2 hO3 hown3; obtain ⟨a3, L3, c3, rfl, hL3⟩ := owns_name hown3))
        go_roundw
        case rel => exact ⟨i + 1, us ++ [.slice a2 L2 c2], a3, c3, HLT.out, congrArg (Value.int IntKind.i64) (Int.natCast_succ i).symm, by rw [hL3.out], by have h9 := hM; rw [hL3.out] at h9; exact h9⟩
        case measure => exact fit_meas i n HLT.out
      · obtain rfl : i = n := by omega
        have hd : decide (i < i) = false := decide_eq_false hlt
        obtain ⟨hul, hown, hrows, hap, hC⟩ := HO1.out
        rw [List.take_of_length_le (by have := HN.out; omega)] at hrows
        have hnew := new_any s ao i cp ps wr (hrows.pay hown) HN.out (by have := HGR.out.1; have := HN.out; omega) (fun xs hx => by have := HGR.out.2 xs hx; omega)
        unfold GaveLog at hnew
        have HROWS := Lib.hid hrows
        have HAP := Lib.hid hap
        have HOWN := Lib.hid hown
        have HC1 := Lib.hid hC
        have HUL := Lib.hid hul
        obtain ⟨w1, rfl⟩ : ∃ w1 : World, w1 = wr := ⟨_, rfl⟩
        clear hul hown hrows hap hC hlt hin HO1
        go_wp2_with fail
        refine hnew.mono ?_
        clear hnew
        rintro e9 w2 ⟨lb, mb, base, vl, rfl, hlog, hmb, hC2⟩
        have hn9 := r9notes_any s _ ps w2 ((HP.out.fr HC1.out).fr hC2) (by have := HGR.out.1; omega)
        unfold GaveR9 at hn9
        obtain ⟨bg, hbg⟩ : ∃ x, begN s ps = x := ⟨_, rfl⟩
        obtain ⟨L, hL⟩ : ∃ x, noteN s ps = x := ⟨_, rfl⟩
        obtain ⟨lg1, lg2, lg3⟩ := log_spec s ps
        rw [hbg] at hn9 lg1
        rw [hL] at hn9 lg2 lg3
        have hLok : (∀ x ∈ L, x.ok ∧ (x.k ≤ 5 ∧ 1 ≤ x.k) ∧ x.a ≤ 1048576 ∧ 0 ≤ x.a) ∧ L.length ≤ 150 := by
          rw [← hL]
          exact ⟨fun x hx => note_mem hx, Nat.le_trans (note_len s ps) HGR.out.1⟩
        have HLOK := Lib.hid hLok
        have HLG := Lib.hid (And.intro lg1 (And.intro lg2 lg3))
        have HLOG := Lib.hid hlog
        have HMB := Lib.hid hmb
        have HC2 := Lib.hid hC2
        have hlen : (L.length : Int) = (L.length : Int) := rfl
        clear hlog hmb hC2 hbg hL lg1 lg2 lg3 hLok hlen
        go_wp2_with fail
        refine hn9.mono ?_
        clear hn9
        rintro e9 w3 ⟨vn, rfl, hvn, hC3⟩
        obtain ⟨na, nL, nc, rfl, hnL⟩ := owns_name hvn
        have HVN := Lib.hid hvn
        have HC3 := Lib.hid hC3
        clear hvn hC3 hnL
        have HRL := Lib.hid (show ∀ q, RowsB us q → W.heap.size ≤ q ∧ q < w1.heap.size from fun q h => by
          obtain ⟨u, hu, e⟩ := h
          exact HROWS.out.lt hu e)
        go_wp2
        go_loopw [55] (fun vi wr => ∃ k : Nat, k ≤ i ∧ vi = .int .i64 k ∧ Chg (RowsB us) w3 wr ∧ (∀ (j : Nat) u xs, k ≤ j → us[j]? = some u → ps[j]? = some xs → wr.ownsRow W.heap.size 5 1 u xs.length (xs.map B))) (fun vi _ => i - (intOf vi).toNat)
        case atStart => exact ⟨0, Nat.zero_le _, rfl, Chg.refl _ _, fun j u xs _ hu hx => (HC2.out.tr HC3.out).owns (HROWS.out.row j u xs hu hx) (fun _ _ => id)⟩
        case round =>
          obtain ⟨k, hk, rfl, hCk, hrw⟩ := hrel
          obtain ⟨wo, rfl⟩ : ∃ wo : World, wo = wr := ⟨_, rfl⟩
          have HCK := Lib.hid hCk
          have HRW := Lib.hid hrw
          clear hCk hrw
          by_cases hlt : k < i
          · have hd : decide (k < i) = true := decide_eq_true hlt
            have HLT := Lib.hid hlt
            have hku : k < us.length := by rw [HUL.out]; exact hlt
            have hkp : k < ps.length := by have := HN.out; omega
            obtain ⟨u, hu⟩ : ∃ u, us[k]'hku = u := ⟨_, rfl⟩
            obtain ⟨xs, hxs⟩ : ∃ xs, ps[k]'hkp = xs := ⟨_, rfl⟩
            have hu2 : us[k]? = some u := by rw [List.getElem?_eq_getElem hku, hu]
            have hx2 : ps[k]? = some xs := by rw [List.getElem?_eq_getElem hkp, hxs]
            have hrow := HRW.out k u xs (Nat.le_refl _) hu2 hx2
            have hO9 : wo.ownsRow W.heap.size 24 1 (.slice ao i cp) i us := HCK.out.owns ((HC2.out.tr HC3.out).owns HOWN.out (fun _ _ => id)) (fun q hq e => by obtain ⟨u, hu, e⟩ := e; exact HAP.out u hu q e hq)
            obtain ⟨b9, o9, c9, eq9, hc9⟩ := (Sl.of_owns hO9).cells k u hu2
            have hPk := pay_k HP.out (HC1.out.tr (HC2.out.tr HC3.out)) HCK.out (fun q h => (HRL.out q h).1)
            obtain ⟨pb, po, u2, eu, hcu, hsu⟩ := hPk.at hkp
            rw [hxs] at hsu
            subst eu
            obtain ⟨m, hm⟩ : ∃ m, xs.length = m := ⟨_, rfl⟩
            have hmb : m ≤ 100 := by rw [← hm]; exact HGR.out.2 xs (by rw [← hxs]; exact List.getElem_mem hkp)
            obtain ⟨X, hX⟩ : ∃ X : ByteArray, (⟨xs.toArray⟩ : ByteArray) = X := ⟨_, rfl⟩
            have s1 := conv_sl (Sl.of_owns hrow)
            have s2 := conv_sl ((Sl.of_owns hrow).fr ((Chg.refl (fun _ => False) wo).drew))
            have s3 := conv_sl hsu
            have s4 := conv_sl (hsu.fr ((Chg.refl (fun _ => False) wo).drew))
            rw [hX] at s1 s2 s3 s4
            have HWR := Lib.hid (Wrt8.of hrow)
            have HUM := Lib.hid (And.intro hu2 (List.mem_of_getElem? hu2))
            have hap := HAP.out u (List.mem_of_getElem? hu2)
            obtain ⟨au, uc, rfl, _⟩ := owns_form hrow
            rw [hm] at hc9 s1 s2 HWR HUM hap
            injection eq9 with eq9 eq8 eq7
            subst eq9
            have HNE := Lib.hid (show ∀ q, (Value.slice au m uc).ownBlock = some q → q ≠ b9 from fun q hq e => hap q hq (by rw [e]; rfl))
            have HMB := Lib.hid hmb
            have HK := Lib.hid hk
            have i1 : (0 : Int) ≤ (k : Int) := Int.natCast_nonneg k
            have i2 : (k : Int) < (i : Int) := Int.ofNat_lt.2 hlt
            clear hlt hku hkp hu hxs hu2 hx2 hrow hO9 hPk hm hmb hX hap eq8 eq7 hsu hk
            go_wp2
            go_region
            clear s1 s2 s3 s4 hcu
            go_wp2
            go_loopw [74] (fun vi wr => ∃ j : Nat, j ≤ m ∧ vi = .int .i64 j ∧ Wrt8 wr (.slice au m uc) m ∧ Chg (fun q => (Value.slice au m uc).ownBlock = some q) wo wr) (fun vi _ => m - (intOf vi).toNat)
            case atStart => exact ⟨0, Nat.zero_le _, rfl, HWR.out.chg (Chg.refl (fun _ => False) wo).drew (fun _ _ => id), (Chg.refl _ _).drew⟩
            case round =>
              obtain ⟨j, hj, rfl, hW, hCj⟩ := hrel
              have HCJ := Lib.hid hCj
              by_cases hlt : j < m
              · have hd2 : decide (j < m) = true := decide_eq_true hlt
                have HLJ := Lib.hid hlt
                obtain ⟨bb, ob, cb, x, eb, hx, hf⟩ := hW j hlt
                injection eb with eb eb2 eb3
                subst eb
                have hc9' := hCj.cell hc9 (fun e => HNE.out b9 e rfl)
                have HST := Lib.hid (hW.set ⟨bb, ob + j, none⟩ (IntKind.u8.wrap (x + 1)))
                have HCS := Lib.hid ((hCj.setCell (p := ⟨bb, ob + j, none⟩) (.inl rfl) (.int .u8 (IntKind.u8.wrap (x + 1)))))
                have j1 : (0 : Int) ≤ (j : Int) := Int.natCast_nonneg j
                have j2 : (j : Int) < (m : Int) := Int.ofNat_lt.2 hlt
                have kw : IntKind.i64.wrap ((j : Int) + 1) = (j : Int) + 1 := IntWalk.i64_in _ (by have := HMB.out; omega)
                clear hlt hj hW hCj eb2 eb3 hc9
                go_wp2
                go_region
                all_goals
                  go_wp2
                  go_roundw
                  case rel => exact ⟨j + 1, HLJ.out, congrArg (Value.int IntKind.i64) (Int.natCast_succ j).symm, HST.out.chg (Chg.refl (fun _ => False) _).drew (fun _ _ => id), HCS.out.drew⟩
                  case measure => exact fit_meas j m HLJ.out
              · have hd2 : decide (j < m) = false := decide_eq_false hlt
                have kw : IntKind.i64.wrap ((k : Int) + 1) = (k : Int) + 1 := IntWalk.i64_in _ (by have := HLT.out; have := HGR.out.1; have := HN.out; omega)
                clear hlt hj hW hCj
                go_wp2
                go_roundw
                case rel => exact ⟨k + 1, HLT.out, congrArg (Value.int IntKind.i64) (Int.natCast_succ k).symm, HCK.out.trans HCJ.out (fun _ _ h => h) (fun q _ e => ⟨_, HUM.out.2, e⟩), fun j' u' xs' hj' hu' hx' => HCJ.out.owns (HRW.out j' u' xs' (by omega) hu' hx') (fun q hq e => HROWS.out.apart k j' _ u' HUM.out.1 hu' (by omega) q e hq)⟩
                case measure => exact fit_meas k i HLT.out
          · obtain rfl : k = i := by omega
            have hd : decide (k < k) = false := decide_eq_false hlt
            have hlog := log_lo (log_fr HLOG.out HC3.out) HCK.out (fun q h => by have := (HRL.out q h).2; have := HMB.out; omega)
            have hvn := HCK.out.owns HVN.out (fun q hq e => by have := (HRL.out q e).2; have := (HVN.out.lt q hq).1; have := HC2.out.size; omega)
            have hnt := notes_any hlog (by rw [HLG.out.2.1]; have := HLOK.out.2; omega)
            rw [HLG.out.2.1] at hnt
            unfold GaveNs at hnt
            have HCW := Lib.hid (show Chg (fun q => W.heap.size ≤ q) W wo from (Chg.mono (HC1.out.tr (HC2.out.tr HC3.out)) (fun _ _ h => h.elim)).trans HCK.out (fun _ _ h => h) (fun q _ h => (HRL.out q h).1))
            replace HLOG := Lib.hid hlog
            replace HVN := Lib.hid (show wo.ownsRow W.heap.size 23 4 (.slice na nL nc) L.length (flatN L) from owns_base hvn (by have := HC1.out.size; have := HC2.out.size; omega))
            clear hlog hvn HRW HROWS HAP HOWN HRL HUL HCK hlt hk HMB HC2 HC3 HC1
            go_wp2_with fail
            refine hnt.mono ?_
            clear hnt
            rintro e9 w5 ⟨vg, rfl, hvg, hC5⟩
            obtain ⟨ga, gL, gc, rfl, hgL⟩ := owns_name hvg
            have hsm := r9same_eq _ _ L w5 (Nts.of_owns hvg) ((Nts.of_owns HVN.out).fr hC5) (by have := HLOK.out.2; omega)
            unfold GaveBo at hsm
            have HVL := Lib.hid (show ∀ q, (Value.slice ga gL gc).ownBlock = some q → wo.heap.size ≤ q from fun q hq => (hvg.lt q hq).1)
            have HC5 := Lib.hid hC5
            obtain ⟨nl, hnl⟩ : ∃ x, L.length = x := ⟨_, rfl⟩
            have hwn := WrtN.of hvg
            rw [hnl] at hgL hwn
            obtain rfl : gL = nl := hgL.out
            have HWN := Lib.hid hwn
            have HNL := Lib.hid hnl
            clear hvg hC5 hgL hnl hwn
            go_wp2_with fail
            refine hsm.mono ?_
            clear hsm
            rintro e9 w6 ⟨rfl, hC6⟩
            replace HWN := Lib.hid (HWN.out.chg hC6 (fun _ _ => id))
            replace HC5 := Lib.hid (HC5.out.tr hC6)
            clear hC6
            go_wp2
            go_loopw [100] (fun vi wr => ∃ j : Nat, j ≤ gL ∧ vi = .int .i64 j ∧ WrtN wr (.slice ga gL gc) gL ∧ Chg (fun q => (Value.slice ga gL gc).ownBlock = some q) w6 wr) (fun vi _ => gL - (intOf vi).toNat)
            case atStart => exact ⟨0, Nat.zero_le _, rfl, HWN.out, Chg.refl _ _⟩
            case round =>
              obtain ⟨j, hj, rfl, hW, hCj⟩ := hrel
              by_cases hlt : j < gL
              · have hd2 : decide (j < gL) = true := decide_eq_true hlt
                have HLJ := Lib.hid hlt
                obtain ⟨bb, ob, cb, x, eb, hx, hf⟩ := hW j hlt
                injection eb with eb eb2 eb3
                subst eb
                have HST := Lib.hid (hW.set ⟨bb, ob + j * 4, none⟩ 99)
                have HCS := Lib.hid ((hCj.setCell (p := ⟨bb, ob + j * 4, none⟩) (.inl rfl) (.int .i64 99)))
                have j1 : (0 : Int) ≤ (j : Int) := Int.natCast_nonneg j
                have j2 : (j : Int) < (gL : Int) := Int.ofNat_lt.2 hlt
                have kw : IntKind.i64.wrap ((j : Int) + 1) = (j : Int) + 1 := IntWalk.i64_in _ (by have := HNL.out; have := HLOK.out.2; omega)
                clear hlt hj hW hCj eb2 eb3
                go_wp2
                go_roundw
                case rel => exact ⟨j + 1, HLJ.out, congrArg (Value.int IntKind.i64) (Int.natCast_succ j).symm, HST.out, HCS.out⟩
                case measure => exact fit_meas j gL HLJ.out
              · have hd2 : decide (j < gL) = false := decide_eq_false hlt
                obtain ⟨w7, rfl⟩ : ∃ w7 : World, w7 = wr := ⟨_, rfl⟩
                have hCT : Chg (fun q => (Value.slice ga gL gc).ownBlock = some q) wo w7 := HC5.out.trans hCj (fun _ _ h => h.elim) (fun _ _ h => h)
                have hlog := log_hi HLOG.out hCT HVL.out
                have hvn := hCT.owns HVN.out (fun q hq e => by have := HVL.out q e; have := (HVN.out.lt q hq).2; omega)
                replace HCW := Lib.hid (HCW.out.trans hCT (fun _ _ h => h) (fun q hq e => by have h1 := HVL.out q e; have h2 := HCW.out.size; exact Nat.le_trans h2 h1))
                obtain ⟨hl1, hl2, hl3⟩ := HLG.out
                have hflok : ∀ x ∈ (logOf s ps).fl, x.ok ∧ x.k ≤ 3 ∧ x.a ≤ 1048576 ∧ 0 ≤ x.a := by
                  rw [hl3]
                  intro x hx
                  rw [List.mem_reverse] at hx
                  unfold fil at hx
                  rw [List.mem_filter] at hx
                  have h1 := HLOK.out.1 x hx.1
                  have h2 := of_decide_eq_true hx.2
                  exact ⟨h1.1, by omega, h1.2.2⟩
                have hfln : (logOf s ps).fl.length ≤ 1000000 := by
                  rw [hl3, List.length_reverse]
                  unfold fil
                  have := List.length_filter_le (fun x : Nt => decide (x.k ≠ 4 ∧ x.k ≠ 5)) L
                  have := HLOK.out.2
                  omega
                have HFL := Lib.hid (And.intro hflok hfln)
                have HNS := Lib.hid (Nts.of_owns hvn)
                have HLOG7 := Lib.hid hlog
                have ht := tile_any hlog (fun x hx => (hflok x hx).1) a b HA.out HB.out
                have hf2 : fileOf (logOf s ps).fl 2 a b = fileOf L.reverse 2 a b := by rw [hl3, fil_rev, file_fil _ _ _ (by decide)]
                have hf3 : fileOf (logOf s ps).fl 3 a b = fileOf L.reverse 3 a b := by rw [hl3, fil_rev, file_fil _ _ _ (by decide)]
                have HDN := Lib.hid (show dnL a (logOf s ps).fl = dnL a L.reverse by rw [hl3, fil_rev, dn_fil])
                have HSTL := Lib.hid (show stL (logOf s ps).fl = stL L.reverse by rw [hl3, fil_rev, st_fil])
                rw [hf2] at ht
                have HF3 := Lib.hid hf3
                obtain ⟨o2, ho2⟩ : ∃ o, fileOf L.reverse 2 a b = o := ⟨_, rfl⟩
                obtain ⟨o3, ho3⟩ : ∃ o, fileOf L.reverse 3 a b = o := ⟨_, rfl⟩
                rw [ho2] at ht
                have HO2 := Lib.hid ho2
                have HO3 := Lib.hid ho3
                unfold FileV at ht
                obtain ⟨x2, hx2⟩ : ∃ x, o2.getD 0 = x := ⟨_, rfl⟩
                obtain ⟨y2, hy2⟩ : ∃ x, o2.isSome = x := ⟨_, rfl⟩
                obtain ⟨x3, hx3⟩ : ∃ x, o3.getD 0 = x := ⟨_, rfl⟩
                obtain ⟨y3, hy3⟩ : ∃ x, o3.isSome = x := ⟨_, rfl⟩
                rw [hx2, hy2] at ht
                have HX := Lib.hid (And.intro hx2 (And.intro hy2 (And.intro hx3 hy3)))
                clear hlt hj hW hCj hCT hlog hvn hl1 hl2 hl3 hflok hfln hf2 hf3 ho2 ho3 hx2 hy2 hx3 hy3 HLOG HVN
                go_wp2_with fail
                refine ht.mono ?_
                clear ht
                rintro e9 w8 ⟨rfl, hC8⟩
                replace HLOG7 := Lib.hid (log_fr HLOG7.out hC8)
                replace HNS := Lib.hid (HNS.out.fr hC8)
                replace HCW := Lib.hid (HCW.out.trans hC8 (fun _ _ h => h) (fun _ _ h => h.elim))
                have hr := r9file_any _ L 2 a b w8 HNS.out (by have := HLOK.out.2; omega)
                unfold GaveFl FileV at hr
                rw [HO2.out, HX.out.1, HX.out.2.1] at hr
                clear hC8
                go_wp2_with fail
                refine hr.mono ?_
                clear hr
                rintro e9 w9 ⟨rfl, e1⟩
                obtain rfl : w8 = w9 := e1.symm
                have ht := run_any HLOG7.out (fun x hx => (HFL.out.1 x hx).1) a b HA.out HB.out
                rw [HF3.out, HO3.out] at ht
                unfold FileV at ht
                rw [HX.out.2.2.1, HX.out.2.2.2] at ht
                go_wp2_with fail
                refine ht.mono ?_
                clear ht
                rintro e9 w9 ⟨rfl, hC9⟩
                replace HLOG7 := Lib.hid (log_fr HLOG7.out hC9)
                replace HNS := Lib.hid (HNS.out.fr hC9)
                replace HCW := Lib.hid (HCW.out.trans hC9 (fun _ _ h => h) (fun _ _ h => h.elim))
                have hr := r9file_any _ L 3 a b w9 HNS.out (by have := HLOK.out.2; omega)
                unfold GaveFl FileV at hr
                rw [HO3.out, HX.out.2.2.1, HX.out.2.2.2] at hr
                clear hC9
                go_wp2_with fail
                refine hr.mono ?_
                clear hr
                rintro e9 wA ⟨rfl, e1⟩
                obtain rfl : w9 = wA := e1.symm
                have hbg := begun_any HLOG7.out
                rw [HLG.out.1] at hbg
                have q1 : (bg == bg) = true := by simp
                have q2 : (x2 == x2) = true := by simp
                have q3 : (y2 == y2) = true := by simp
                have q4 : (x3 == x3) = true := by simp
                have q5 : (y3 == y3) = true := by simp
                go_wp2_with fail
                refine hbg.mono ?_
                clear hbg
                rintro e9 wB ⟨rfl, e1⟩
                obtain rfl : w9 = wB := e1.symm
                have hdn := ldone_any HLOG7.out (fun x hx => (HFL.out.1 x hx).1) HFL.out.2 a
                unfold SaidN at hdn
                rw [HDN.out] at hdn
                go_wp2_with fail
                refine hdn.mono ?_
                clear hdn q1 q2 q3 q4 q5
                rintro e9 wC ⟨rfl, hCC⟩
                replace HLOG7 := Lib.hid (log_fr HLOG7.out hCC)
                replace HNS := Lib.hid (HNS.out.fr hCC)
                replace HCW := Lib.hid (HCW.out.trans hCC (fun _ _ h => h) (fun _ _ h => h.elim))
                have hrd := r9done_any _ L a wC HNS.out (by have := HLOK.out.2; omega)
                unfold SaidN at hrd
                obtain ⟨D, hD⟩ : ∃ D, dnL a L.reverse = D := ⟨_, rfl⟩
                rw [hD] at hrd ⊢
                have q1 : ((D : Int) == (D : Int)) = true := by simp
                clear hCC hD
                go_wp2_with fail
                refine hrd.mono ?_
                clear hrd
                rintro e9 wD ⟨rfl, hCD⟩
                replace HLOG7 := Lib.hid (log_fr HLOG7.out hCD)
                replace HNS := Lib.hid (HNS.out.fr hCD)
                replace HCW := Lib.hid (HCW.out.trans hCD (fun _ _ h => h) (fun _ _ h => h.elim))
                have hst := lsteps_any HLOG7.out (fun x hx => (HFL.out.1 x hx).1) (fun x hx => (HFL.out.1 x hx).2)
                unfold SaidN at hst
                rw [HSTL.out] at hst
                obtain ⟨T, hT⟩ : ∃ T, stL L.reverse = T := ⟨_, rfl⟩
                rw [hT] at hst
                have HT := Lib.hid hT
                clear hCD hT
                go_wp2_with fail
                refine hst.mono ?_
                clear hst q1
                rintro e9 wE ⟨rfl, hCE⟩
                replace HLOG7 := Lib.hid (log_fr HLOG7.out hCE)
                replace HNS := Lib.hid (HNS.out.fr hCE)
                replace HCW := Lib.hid (HCW.out.trans hCE (fun _ _ h => h) (fun _ _ h => h.elim))
                have hrs := r9steps_any _ L wE HNS.out (by have := HLOK.out.2; omega) (fun x hx => (HLOK.out.1 x hx).2.2)
                unfold SaidN at hrs
                rw [HT.out] at hrs
                have q1 : (T == T) = true := by simp
                clear hCE
                go_wp2_with fail
                refine hrs.mono ?_
                clear hrs
                rintro e9 wF ⟨rfl, hCF⟩
                replace HLOG7 := Lib.hid (log_fr HLOG7.out hCF)
                replace HNS := Lib.hid (HNS.out.fr hCF)
                replace HCW := Lib.hid (HCW.out.trans hCF (fun _ _ h => h) (fun _ _ h => h.elim))
                have hnt := notes_any HLOG7.out (by rw [HLG.out.2.1]; have := HLOK.out.2; omega)
                rw [HLG.out.2.1] at hnt
                unfold GaveNs at hnt
                clear hCF
                go_wp2_with fail
                refine hnt.mono ?_
                clear hnt q1
                rintro e9 wG ⟨vh, rfl, hvh, hCG⟩
                replace HCW := Lib.hid (HCW.out.trans hCG (fun _ _ h => h) (fun _ _ h => h.elim))
                obtain ⟨ha1, ha2, ha3, rfl, _⟩ := owns_name hvh
                have hsm := r9same_eq _ _ L wG (Nts.of_owns hvh) (HNS.out.fr hCG) (by have := HLOK.out.2; omega)
                unfold GaveBo at hsm
                clear hvh hCG
                go_wp2_with fail
                refine hsm.mono ?_
                clear hsm
                rintro e9 wH ⟨rfl, hCH⟩
                go_wp2
                go_ret
                exact ⟨rfl, (HCW.out.trans hCH (fun _ _ h => h) (fun _ _ h => h.elim)).mono (fun q hq h => absurd h (by omega))⟩
end Go.Proofs.Ytpiboaoifcajdaa
