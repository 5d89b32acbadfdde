/- NoteNames' walk. -/
import Derived.Test.YtpiboaoifcajdaaNtY
import Derived.Deep.OwnRows
namespace Go.Proofs.Ytpiboaoifcajdaa
open Go.RowKit Go.Shelf

def noL : List Nt := [⟨0, 0, 0, 0⟩, ⟨6, 0, 0, 0⟩, ⟨1, 0, 1, 0⟩, ⟨1, 0, 0, 1⟩, ⟨2, -1, 0, 0⟩, ⟨2, 0, 1048577, 0⟩, ⟨3, 0, 0, -1⟩, ⟨4, 0, 1, 0⟩, ⟨5, 0, 0, 1⟩]
def yesL : List Nt := [⟨1, 1048576, 0, 0⟩, ⟨2, 1, 1048576, 9223372036854775807⟩, ⟨3, 0, 0, 0⟩, ⟨4, 9, 0, 0⟩, ⟨5, 2, 8, 0⟩]
theorem noL_not : ∀ x ∈ noL, x.may = false ∧ x.ok := by simp [noL, Nt.may, mayB, inB, Nt.ok, In64]
theorem yesL_may : ∀ x ∈ yesL, x.may = true ∧ x.ok := by simp [yesL, Nt.may, mayB, inB, Nt.ok, In64]
def noA : Array Value := (flatN noL).toArray
def yesA : Array Value := (flatN yesL).toArray
def z17 : Array Value := ((List.replicate 17 (0 : UInt8)).map B).toArray
theorem made17 : madeCells #[Value.int .u8 0] 17 = z17 := by kernel_rfl
theorem dec17 : decOk (List.replicate 17 (0 : UInt8)) = false := by decide +kernel
theorem sl_made (W : World) : Sl (W.alloc (.cells z17 5)) (.slice (some ⟨W.heap.size, 0, none⟩) 17 17) ((List.replicate 17 (0 : UInt8)).map B) :=
  ⟨⟨_, _, rfl, Nat.le_refl _, by decide, fun e => (by cases e)⟩, fun j u hu => ⟨_, _, _, rfl, by rw [Nat.zero_add]; exact new_cell W z17 _ (by unfold z17; rw [List.getElem?_toArray]; exact hu)⟩⟩
def sixL : List Nt := [⟨1, 4, 0, 0⟩, ⟨2, 1, 2, 7⟩, ⟨3, 5, 0, 8⟩, ⟨2, 1, 2, 9⟩, ⟨4, 4, 0, 0⟩, ⟨2, 1, 2, 7⟩]
theorem sixL_may : ∀ x ∈ sixL, x.may = true ∧ x.ok := by simp [sixL, Nt.may, mayB, inB, Nt.ok, In64]
def sixA : Array Value := (flatN sixL).toArray
theorem nt_new (W : World) (k a b n : Int) (t : TypeId) : NtAt (W.alloc (.cells #[.int .i64 k, .int .i64 a, .int .i64 b, .int .i64 n] t)) W.heap.size 0 ⟨k, a, b, n⟩ :=
  ⟨new_cell W _ _ rfl, new_cell W _ _ rfl, new_cell W _ _ rfl, new_cell W _ _ rfl⟩
theorem nt_of (x : Nt) : ∃ k a b n, x = ⟨k, a, b, n⟩ := ⟨_, _, _, _, rfl⟩
theorem done1 : ((doneN [⟨2, 1, 2, 9⟩, ⟨3, 5, 0, 8⟩, ⟨2, 1, 2, 7⟩] 1 : Nat) : Int) = 1 := by decide
theorem done5 : ((doneN [⟨2, 1, 2, 9⟩, ⟨3, 5, 0, 8⟩, ⟨2, 1, 2, 7⟩] 5 : Nat) : Int) = 0 := by decide
theorem steps6 : stN [⟨2, 1, 2, 9⟩, ⟨3, 5, 0, 8⟩, ⟨2, 1, 2, 7⟩] = 6 := by decide
theorem threeOk : ∀ x ∈ [(⟨2, 1, 2, 9⟩ : Nt), ⟨3, 5, 0, 8⟩, ⟨2, 1, 2, 7⟩], x.ok := by simp [Nt.ok, In64]
theorem threeB : ∀ x ∈ [(⟨2, 1, 2, 9⟩ : Nt), ⟨3, 5, 0, 8⟩, ⟨2, 1, 2, 7⟩], 0 ≤ x.a ∧ x.a ≤ 1048576 := by simp
theorem threeL : [(⟨2, 1, 2, 9⟩ : Nt), ⟨3, 5, 0, 8⟩, ⟨2, 1, 2, 7⟩].length ≤ 1000000 := by simp
theorem done_is {W : World} {lb mb base : Nat} {bg stp : Bool} {l fl : List Nt} {v : Value} (h : LogAt W lb mb base ⟨bg, l, fl, stp⟩ v) (hok : ∀ x ∈ fl, x.ok) (hlen : fl.length ≤ 1000000) (s n : Int) (hn : (doneN fl s : Int) = n) : Calls Try.prog 20 #[.pointer (some ⟨lb, 0, none⟩), .int .i64 s] W (fun e w' => e = .returned (.int .i64 n) ∧ Chg (fun _ => False) W w') := hn ▸ done_any h hok hlen s
theorem steps_is {W : World} {lb mb base : Nat} {bg stp : Bool} {l fl : List Nt} {v : Value} (h : LogAt W lb mb base ⟨bg, l, fl, stp⟩ v) (hok : ∀ x ∈ fl, x.ok) (hbd : ∀ x ∈ fl, 0 ≤ x.a ∧ x.a ≤ 1048576) (n : Int) (hn : stN fl = n) : Calls Try.prog 26 #[.pointer (some ⟨lb, 0, none⟩)] W (fun e w' => e = .returned (.int .i64 n) ∧ Chg (fun _ => False) W w') := hn ▸ steps_any h hok hbd
set_option maxRecDepth 100000 in
set_option maxHeartbeats 8000000 in
theorem noteNames_walk (W : World) : Calls Try.prog 7 #[] W (True_ W) := by
  obtain ⟨i0, hi, hz0, hz1, hz2⟩ := info_parts info_bytes
  have hmk : ∀ w, (Instr.makeSlice 24 (.int .i64 17) (.int .i64 17)).run Try.prog w = .ok (.slice (some ⟨w.heap.size, 0, none⟩) 17 17) (w.alloc (.cells z17 5)) := by
    rw [← made17]; exact run_make_row' (P := Try.prog) 24 5 (.int .u8 0) 1 Try.underlying24 Try.info5 rfl .i64 .i64 17 (by decide) (by decide)
  go_enter Try.func7, Try.ntmps7
  go_wp2_with fail
  have hN0 := nts_lit W noA 23 noL 9 rfl
  have hC0 := (Chg.refl (fun _ => False) W).alloc (.cells noA 23)
  obtain ⟨w0, hw0⟩ : ∃ w0, W.alloc (.cells noA 23) = w0 := ⟨_, rfl⟩
  rw [hw0] at hN0 hC0
  simp only [noA, noL, flatN, ntL, List.flatMap_cons, List.flatMap_nil, List.cons_append, List.nil_append] at hw0
  rw [hw0]
  clear hw0
  go_loopw [1, 45] (fun one i wr => one = .bool true ∧ ∃ k : Nat, k ≤ 9 ∧ i = .int .i64 k ∧ Chg (fun _ => False) w0 wr) (fun _ i _ => 9 - (intOf i).toNat)
  case atStart => exact ⟨rfl, 0, by decide, rfl, Chg.refl _ _⟩
  case round =>
    obtain ⟨rfl, k, hk, rfl, hC⟩ := hrel
    by_cases hlt : k < 9
    · have hlt' : (k : Int) < 9 := by omega
      have hkw : IntKind.i64.wrap ((k : Int) + 1) = (k : Int) + 1 := IntWalk.i64_in _ (by omega)
      obtain ⟨b, o, c', e1, hx⟩ := (hN0.fr hC).cells k hlt
      injection e1 with e1 e2 e3
      clear e2 e3
      injection e1 with e1
      injection e1 with e1 e2 e3
      clear e3
      subst e1 e2
      obtain ⟨hm, hok⟩ := noL_not _ (List.getElem_mem hlt)
      obtain ⟨g1, g2, _⟩ := enc_not hm
      obtain ⟨x, hxl⟩ : ∃ x, noL[k] = x := ⟨_, rfl⟩
      rw [hxl] at hx hok g1 g2
      clear hm hxl
      obtain ⟨kk, a, b', z⟩ := x
      have henc := fun w' => encode_any kk a b' z hok.2.2.2.2 w'
      rw [encN_mk] at g1
      simp only at g2
      have x0 := hx.c0
      have x1 := hx.c1
      have x2 := hx.c2
      have x3 := hx.c3
      simp only [Nat.zero_add] at x0 x1 x2 x3 henc
      rw [g1, g2] at henc
      clear g1 g2 hx
      unfold noteV at henc
      go_wp2_with fail
      refine (henc _).mono ?_
      clear henc
      rintro e w1 ⟨v1, rfl, ho1, hC1⟩
      obtain ⟨ao2, L2, c2, rfl, hL2⟩ := owns_name ho1
      have hL2' : L2 = 0 := hL2.out
      subst hL2'
      have hC2 := (hC.alloc (.cells #[.int .i64 kk, .int .i64 a, .int .i64 b', .int .i64 z] 23)).tr hC1
      clear ho1 hL2 x0 x1 x2 x3
      go_wp2
      exact ⟨⟨rfl, k + 1, hlt, congrArg _ (by omega), hC2⟩, fit_meas k 9 hlt⟩
    · obtain rfl : k = 9 := by omega
      obtain ⟨w1, rfl⟩ : ∃ w1, w1 = wr := ⟨_, rfl⟩
      go_wp2_with fail
      have hN1 := nts_lit w1 yesA 23 yesL 5 rfl
      have hC3 := (hC0.tr hC).alloc (.cells yesA 23)
      have hs3 : (w1.alloc (.cells yesA 23)).heap.size = w1.heap.size + 1 := by simp
      obtain ⟨w3, hw3⟩ : ∃ w3, w1.alloc (.cells yesA 23) = w3 := ⟨_, rfl⟩
      rw [hw3] at hN1 hC3 hs3
      simp only [yesA, yesL, flatN, ntL, List.flatMap_cons, List.flatMap_nil, List.cons_append, List.nil_append] at hw3
      rw [hw3]
      clear hw3 hN0 hC0 hC hk hlt
      go_loopw [1, 72] (fun one i wq => one = .bool true ∧ ∃ k : Nat, k ≤ 5 ∧ i = .int .i64 k ∧ Chg (fun _ => False) w3 wq) (fun _ i _ => 5 - (intOf i).toNat)
      case atStart => exact ⟨rfl, 0, by decide, rfl, Chg.refl _ _⟩
      case round =>
        obtain ⟨rfl, k, hk, rfl, hC⟩ := hrel
        by_cases hlt : k < 5
        · have hlt' : (k : Int) < 5 := by omega
          have hkw : IntKind.i64.wrap ((k : Int) + 1) = (k : Int) + 1 := IntWalk.i64_in _ (by omega)
          obtain ⟨b, o, c', e1, hx⟩ := (hN1.fr hC).cells k hlt
          injection e1 with e1 e2 e3
          clear e2 e3
          injection e1 with e1
          injection e1 with e1 e2 e3
          clear e3
          subst e1 e2
          obtain ⟨hm, hok⟩ := yesL_may _ (List.getElem_mem hlt)
          obtain ⟨g1, g2, g3, g4⟩ := enc_may hm hok
          obtain ⟨x, hxl⟩ : ∃ x, yesL[k] = x := ⟨_, rfl⟩
          rw [hxl] at hx hok g1 g2 g3 g4
          clear hm hxl
          obtain ⟨kk, a, b', z⟩ := x
          have henc := fun w' => encode_any kk a b' z hok.2.2.2.2 w'
          rw [encN_mk] at g1 g2 g4
          simp only at g3
          have x0 := hx.c0
          have x1 := hx.c1
          have x2 := hx.c2
          have x3 := hx.c3
          simp only [Nat.zero_add] at x0 x1 x2 x3 henc
          rw [g3] at henc
          clear g3 hx
          unfold noteV at henc
          go_wp2_with fail
          refine (henc _).mono ?_
          clear henc
          rintro e w4 ⟨v1, rfl, ho1, hC4⟩
          obtain ⟨ao2, L2, c2, rfl, hL2⟩ := owns_name ho1
          have hL2' : L2 = 17 := hL2.out.trans g4
          subst hL2'
          have hd := decode_any _ _ w4 (Sl.of_owns ho1) (by rw [g4]; decide)
          rw [g1, decV_noteP, g2] at hd
          unfold ntV at hd
          have hC5 := (hC.alloc (.cells #[.int .i64 kk, .int .i64 a, .int .i64 b', .int .i64 z] 23)).tr hC4
          have d0 : w4.cell? ⟨wr.heap.size, 0, none⟩ = some (.int .i64 kk) := hC4.cell (new_cell wr _ _ rfl) id
          have d1 : w4.cell? ⟨wr.heap.size, 1, none⟩ = some (.int .i64 a) := hC4.cell (new_cell wr _ _ rfl) id
          have d2 : w4.cell? ⟨wr.heap.size, 2, none⟩ = some (.int .i64 b') := hC4.cell (new_cell wr _ _ rfl) id
          have d3 : w4.cell? ⟨wr.heap.size, 3, none⟩ = some (.int .i64 z) := hC4.cell (new_cell wr _ _ rfl) id
          clear ho1 hL2 x0 x1 x2 x3 g1 g2 g4
          go_wp2_with fail
          refine hd.mono ?_
          clear hd
          rintro e w5 ⟨rfl, hC6⟩
          have hC7 := hC6.alloc (.cells #[.int .i64 kk, .int .i64 a, .int .i64 b', .int .i64 z] 23)
          have hC8 := hC5.tr hC7
          have y0 : (w5.alloc (.cells #[.int .i64 kk, .int .i64 a, .int .i64 b', .int .i64 z] 23)).cell? ⟨w5.heap.size, 0, none⟩ = some (.int .i64 kk) := new_cell w5 _ _ rfl
          have y1 : (w5.alloc (.cells #[.int .i64 kk, .int .i64 a, .int .i64 b', .int .i64 z] 23)).cell? ⟨w5.heap.size, 1, none⟩ = some (.int .i64 a) := new_cell w5 _ _ rfl
          have y2 : (w5.alloc (.cells #[.int .i64 kk, .int .i64 a, .int .i64 b', .int .i64 z] 23)).cell? ⟨w5.heap.size, 2, none⟩ = some (.int .i64 b') := new_cell w5 _ _ rfl
          have y3 : (w5.alloc (.cells #[.int .i64 kk, .int .i64 a, .int .i64 b', .int .i64 z] 23)).cell? ⟨w5.heap.size, 3, none⟩ = some (.int .i64 z) := new_cell w5 _ _ rfl
          replace d0 := hC7.cell d0 id
          replace d1 := hC7.cell d1 id
          replace d2 := hC7.cell d2 id
          replace d3 := hC7.cell d3 id
          go_wp2
          refine ⟨?_, fit_meas k 5 hlt⟩
          iterate 40 apply Exists.intro
          refine ⟨⟨rfl, k + 1, hlt, ?_, hC8⟩, rfl⟩
          exact congrArg _ (by omega)
        · obtain rfl : k = 5 := by omega
          obtain ⟨w4, rfl⟩ : ∃ w4, w4 = wr := ⟨_, rfl⟩
          have hS0 : Sl w4 (.slice none 0 0) (([] : List UInt8).map B) := ⟨⟨none, 0, rfl, Nat.le_refl _, by decide, fun _ => rfl⟩, fun j u h => by simp at h⟩
          have hd0 := decode_any _ [] w4 hS0 (by decide)
          rw [decV_noteP, noteP_no (dec_short (by decide)), decE_no (dec_short (by decide))] at hd0
          unfold ntV at hd0
          clear hN1 hk hlt hS0
          go_wp2_with fail
          refine hd0.mono ?_
          clear hd0
          rintro e w5 ⟨rfl, hC5⟩
          have hC6 := (hC3.tr hC).tr hC5
          clear hC5 hC hC3 hs3
          have hd1 := decode_any _ _ _ (sl_made (w5.alloc (.cells #[.int .i64 0, .int .i64 0, .int .i64 0, .int .i64 0] 23))) (by rw [List.length_replicate]; decide)
          rw [decV_noteP, noteP_no dec17, decE_no dec17, World.size_alloc] at hd1
          unfold ntV at hd1
          go_wp2_with fail
          refine hd1.mono ?_
          clear hd1
          rintro e w6 ⟨rfl, hC7⟩
          have hC8 := ((hC6.alloc (.cells #[.int .i64 0, .int .i64 0, .int .i64 0, .int .i64 0] 23)).alloc (.cells z17 5)).tr hC7
          clear hC7 hC6
          go_wp2_with fail
          obtain ⟨wa, hwa⟩ : ∃ wa, w6.alloc (.cells #[.int .i64 0, .int .i64 0, .int .i64 0, .int .i64 0] 23) = wa := ⟨_, rfl⟩
          have sa : wa.heap.size = w6.heap.size + 1 := by rw [← hwa]; simp
          have ca : Chg (fun _ => False) w6 wa := by rw [← hwa]; exact (Chg.refl _ _).alloc _
          obtain ⟨wb, hwb⟩ : ∃ wb, wa.alloc (.cells #[.int .i64 1, .int .i64 4, .int .i64 0, .int .i64 0] 23) = wb := ⟨_, rfl⟩
          have sb : wb.heap.size = w6.heap.size + 1 + 1 := by rw [← hwb, World.size_alloc, sa]
          have cb : Chg (fun _ => False) wa wb := by rw [← hwb]; exact (Chg.refl _ _).alloc _
          have bb : NtAt wb (w6.heap.size + 1) 0 ⟨1, 4, 0, 0⟩ := by rw [← hwb, ← sa]; exact nt_new _ _ _ _ _ _
          obtain ⟨wc, hwc⟩ : ∃ wc, wb.alloc (.cells #[.int .i64 2, .int .i64 1, .int .i64 2, .int .i64 7] 23) = wc := ⟨_, rfl⟩
          have sc : wc.heap.size = w6.heap.size + 1 + 1 + 1 := by rw [← hwc, World.size_alloc, sb]
          have cc : Chg (fun _ => False) wb wc := by rw [← hwc]; exact (Chg.refl _ _).alloc _
          have bc : NtAt wc (w6.heap.size + 1 + 1) 0 ⟨2, 1, 2, 7⟩ := by rw [← hwc, ← sb]; exact nt_new _ _ _ _ _ _
          obtain ⟨wd, hwd⟩ : ∃ wd, wc.alloc (.cells #[.int .i64 3, .int .i64 5, .int .i64 0, .int .i64 8] 23) = wd := ⟨_, rfl⟩
          have sd : wd.heap.size = w6.heap.size + 1 + 1 + 1 + 1 := by rw [← hwd, World.size_alloc, sc]
          have cd : Chg (fun _ => False) wc wd := by rw [← hwd]; exact (Chg.refl _ _).alloc _
          have bd : NtAt wd (w6.heap.size + 1 + 1 + 1) 0 ⟨3, 5, 0, 8⟩ := by rw [← hwd, ← sc]; exact nt_new _ _ _ _ _ _
          obtain ⟨we, hwe⟩ : ∃ we, wd.alloc (.cells #[.int .i64 4, .int .i64 4, .int .i64 0, .int .i64 0] 23) = we := ⟨_, rfl⟩
          have se : we.heap.size = w6.heap.size + 1 + 1 + 1 + 1 + 1 := by rw [← hwe, World.size_alloc, sd]
          have ce : Chg (fun _ => False) wd we := by rw [← hwe]; exact (Chg.refl _ _).alloc _
          obtain ⟨wf, hwf⟩ : ∃ wf, we.alloc (.cells #[.int .i64 2, .int .i64 1, .int .i64 2, .int .i64 9] 23) = wf := ⟨_, rfl⟩
          have sf : wf.heap.size = w6.heap.size + 1 + 1 + 1 + 1 + 1 + 1 := by rw [← hwf, World.size_alloc, se]
          have cf : Chg (fun _ => False) we wf := by rw [← hwf]; exact (Chg.refl _ _).alloc _
          have cef := ce.tr cf
          have hbg := (bb.chg (cc.tr (cd.tr cef)) id)
          have hti := (bc.chg (cd.tr cef) id)
          have hru := (bd.chg cef id)
          have hC9 := hC8.tr (ca.tr (cb.tr (cc.tr (cd.tr cef))))
          rw [hwa, hwb, hwc, hwd, hwe, hwf]
          have hbs := bytes9_any _ sixL _ (sf ▸ nts_lit wf sixA 23 sixL 6 rfl) (fun x hx => (sixL_may x hx).2) (by decide)
          have hCs := (Chg.refl (fun _ => False) wf).alloc (.cells sixA 23)
          simp only [sixA, sixL, flatN, ntL, List.flatMap_cons, List.flatMap_nil, List.cons_append, List.nil_append] at hbs hCs
          clear hC8 bb bc bd ca cb cc cd ce cf cef hwa hwb hwc hwd hwe hwf sa sb sc sd se
          refine hbs.mono ?_
          clear hbs
          rintro e w7 ⟨v7, rfl, hR7, hC7⟩
          have hn7 := newB_any 4 ⟨1, 4, 0, 0⟩ [⟨2, 1, 2, 7⟩, ⟨3, 5, 0, 8⟩, ⟨2, 1, 2, 9⟩, ⟨4, 4, 0, 0⟩, ⟨2, 1, 2, 7⟩] v7 w7 hR7.pay (by decide) sixL_may true [⟨2, 1, 2, 7⟩, ⟨3, 5, 0, 8⟩, ⟨2, 1, 2, 9⟩, ⟨4, 4, 0, 0⟩] [⟨2, 1, 2, 9⟩, ⟨3, 5, 0, 8⟩, ⟨2, 1, 2, 7⟩] (by decide) (by simp [takeM]) (by simp [fil])
          have hC70 := hCs.tr hC7
          replace hbg := hbg.chg hC70 id
          replace hti := hti.chg hC70 id
          replace hru := hru.chg hC70 id
          replace hC9 := hC9.tr hC70
          clear hR7 hC70 hC7 hCs
          go_wp2_with fail
          refine hn7.mono ?_
          clear hn7
          rintro e w8 ⟨lb, mb, base, v, stp, rfl, hL, _, hC80⟩
          replace hbg := hbg.chg hC80 id
          replace hti := hti.chg hC80 id
          replace hru := hru.chg hC80 id
          replace hC9 := hC9.tr hC80
          clear hC80
          go_wp2_with fail
          have hcall := tile_any hL (by simp [Nt.ok, In64]) 1 2 (by unfold In64; decide) (by unfold In64; decide)
          rw [show FileV (fileOf [⟨2, 1, 2, 9⟩, ⟨3, 5, 0, 8⟩, ⟨2, 1, 2, 7⟩] 2 1 2) = .tuple #[.int .i64 9, .bool true] by simp [FileV, fileOf]] at hcall
          refine hcall.mono ?_
          clear hcall
          rintro e wt ⟨rfl, hCc⟩
          replace hL := hL.chg hCc id id (fun _ _ => id)
          replace hbg := hbg.chg hCc id
          replace hti := hti.chg hCc id
          replace hru := hru.chg hCc id
          replace hC9 := hC9.tr hCc
          clear hCc
          go_wp2_with fail
          have hcall := run_any hL (by simp [Nt.ok, In64]) 5 0 (by unfold In64; decide) in64_0
          rw [show FileV (fileOf [⟨2, 1, 2, 9⟩, ⟨3, 5, 0, 8⟩, ⟨2, 1, 2, 7⟩] 3 5 0) = .tuple #[.int .i64 8, .bool true] by simp [FileV, fileOf]] at hcall
          refine hcall.mono ?_
          clear hcall
          rintro e wu ⟨rfl, hCc⟩
          replace hL := hL.chg hCc id id (fun _ _ => id)
          replace hbg := hbg.chg hCc id
          replace hti := hti.chg hCc id
          replace hru := hru.chg hCc id
          replace hC9 := hC9.tr hCc
          clear hCc
          have p1 := begun_any hL
          have p2 := notes_any hL (by simp)
          go_wp2_with (first
            | (go_at_call 18; refine p1.mono ?_; rintro e wv ⟨rfl, rfl⟩)
            | (go_at_call 16; refine p2.mono ?_; rintro e wx ⟨vx, rfl, hox, hCx⟩; obtain ⟨aox, Lx, cx, rfl, hLx⟩ := owns_name hox; have hLx' : Lx = 4 := hLx.out; subst hLx'; have hL2 := hL.chg hCx id id (fun _ _ => id))
            | (go_at_call 20; (with_reducible refine (done_is hL2 threeOk threeL 1 1 done1).mono ?_); rintro e wy ⟨rfl, hCy⟩; have hL3 := hL2.chg hCy id id (fun _ _ => id))
            | (go_at_call 20; (with_reducible refine (done_is hL3 threeOk threeL 5 0 done5).mono ?_); rintro e wz ⟨rfl, hCz⟩; have hL4 := hL3.chg hCz id id (fun _ _ => id))
            | (go_at_call 26; (with_reducible refine (steps_is hL4 threeOk threeB 6 steps6).mono ?_); rintro e wo ⟨rfl, hCo⟩; have hCq := hCx.tr (hCy.tr (hCz.tr hCo)); replace hbg := hbg.chg hCq id; replace hti := hti.chg hCq id; replace hru := hru.chg hCq id; replace hC9 := hC9.tr hCq
               have qb0 : wo.cell? ⟨w6.heap.size + 1, 0, none⟩ = some (.int .i64 1) := hbg.c0
               have qb1 : wo.cell? ⟨w6.heap.size + 1, 1, none⟩ = some (.int .i64 4) := hbg.c1
               have qb2 : wo.cell? ⟨w6.heap.size + 1, 2, none⟩ = some (.int .i64 0) := hbg.c2
               have qb3 : wo.cell? ⟨w6.heap.size + 1, 3, none⟩ = some (.int .i64 0) := hbg.c3
               have qt0 : wo.cell? ⟨w6.heap.size + 1 + 1, 0, none⟩ = some (.int .i64 2) := hti.c0
               have qt1 : wo.cell? ⟨w6.heap.size + 1 + 1, 1, none⟩ = some (.int .i64 1) := hti.c1
               have qt2 : wo.cell? ⟨w6.heap.size + 1 + 1, 2, none⟩ = some (.int .i64 2) := hti.c2
               have qt3 : wo.cell? ⟨w6.heap.size + 1 + 1, 3, none⟩ = some (.int .i64 7) := hti.c3
               have qr0 : wo.cell? ⟨w6.heap.size + 1 + 1 + 1, 0, none⟩ = some (.int .i64 3) := hru.c0
               have qr1 : wo.cell? ⟨w6.heap.size + 1 + 1 + 1, 1, none⟩ = some (.int .i64 5) := hru.c1
               have qr2 : wo.cell? ⟨w6.heap.size + 1 + 1 + 1, 2, none⟩ = some (.int .i64 0) := hru.c2
               have qr3 : wo.cell? ⟨w6.heap.size + 1 + 1 + 1, 3, none⟩ = some (.int .i64 8) := hru.c3
              ))
          clear hL hL2 hL3 hL4 hox hCx hCy hCz hCo hCq p1 p2
          have hbs := bytes9_any _ [⟨1, 4, 0, 0⟩, ⟨2, 1, 2, 7⟩] _ (nts_lit wo #[.int .i64 1, .int .i64 4, .int .i64 0, .int .i64 0, .int .i64 2, .int .i64 1, .int .i64 2, .int .i64 7] 23 [⟨1, 4, 0, 0⟩, ⟨2, 1, 2, 7⟩] 2 rfl) (by simp [Nt.ok, In64]) (by simp)
          refine hbs.mono ?_
          clear hbs qb0 qb1 qb2 qb3 qt0 qt1 qt2 qt3 qr0 qr1 qr2 qr3
          rintro e wp ⟨vb, rfl, hRb, hCb⟩
          have hCb0 := ((Chg.refl (fun _ => False) wo).alloc (.cells #[.int .i64 1, .int .i64 4, .int .i64 0, .int .i64 0, .int .i64 2, .int .i64 1, .int .i64 2, .int .i64 7] 23)).tr hCb
          replace hbg := hbg.chg hCb0 id
          replace hti := hti.chg hCb0 id
          replace hru := hru.chg hCb0 id
          replace hC9 := hC9.tr hCb0
          have hSb := hCb.size
          clear hCb
          have hn := newB_any 5 ⟨1, 4, 0, 0⟩ [⟨2, 1, 2, 7⟩] vb wp hRb.pay (by simp) (by simp [Nt.may, mayB, inB, Nt.ok, In64]) false [] [] (by decide) rfl rfl
          clear hRb
          go_wp2_with fail
          refine hn.mono ?_
          clear hn
          rintro e wq ⟨lb1, mb1, ba1, vl1, st1, rfl, hL1, _, hCb⟩
          replace hbg := hbg.chg hCb id
          replace hti := hti.chg hCb id
          replace hru := hru.chg hCb id
          replace hC9 := hC9.tr hCb
          have qb0 : wq.cell? ⟨w6.heap.size + 1, 0, none⟩ = some (.int .i64 1) := hbg.c0
          have qb1 : wq.cell? ⟨w6.heap.size + 1, 1, none⟩ = some (.int .i64 4) := hbg.c1
          have qb2 : wq.cell? ⟨w6.heap.size + 1, 2, none⟩ = some (.int .i64 0) := hbg.c2
          have qb3 : wq.cell? ⟨w6.heap.size + 1, 3, none⟩ = some (.int .i64 0) := hbg.c3
          have qt0 : wq.cell? ⟨w6.heap.size + 1 + 1, 0, none⟩ = some (.int .i64 2) := hti.c0
          have qt1 : wq.cell? ⟨w6.heap.size + 1 + 1, 1, none⟩ = some (.int .i64 1) := hti.c1
          have qt2 : wq.cell? ⟨w6.heap.size + 1 + 1, 2, none⟩ = some (.int .i64 2) := hti.c2
          have qt3 : wq.cell? ⟨w6.heap.size + 1 + 1, 3, none⟩ = some (.int .i64 7) := hti.c3
          have qr0 : wq.cell? ⟨w6.heap.size + 1 + 1 + 1, 0, none⟩ = some (.int .i64 3) := hru.c0
          have qr1 : wq.cell? ⟨w6.heap.size + 1 + 1 + 1, 1, none⟩ = some (.int .i64 5) := hru.c1
          have qr2 : wq.cell? ⟨w6.heap.size + 1 + 1 + 1, 2, none⟩ = some (.int .i64 0) := hru.c2
          have qr3 : wq.cell? ⟨w6.heap.size + 1 + 1 + 1, 3, none⟩ = some (.int .i64 8) := hru.c3
          go_wp2_with fail
          have hbs := bytes9_any _ [⟨1, 4, 0, 0⟩, ⟨2, 1, 2, 7⟩, ⟨1, 4, 0, 0⟩, ⟨3, 5, 0, 8⟩] _ (nts_lit wq #[.int .i64 1, .int .i64 4, .int .i64 0, .int .i64 0, .int .i64 2, .int .i64 1, .int .i64 2, .int .i64 7, .int .i64 1, .int .i64 4, .int .i64 0, .int .i64 0, .int .i64 3, .int .i64 5, .int .i64 0, .int .i64 8] 23 [⟨1, 4, 0, 0⟩, ⟨2, 1, 2, 7⟩, ⟨1, 4, 0, 0⟩, ⟨3, 5, 0, 8⟩] 4 rfl) (by simp [Nt.ok, In64]) (by simp)
          refine hbs.mono ?_
          clear hbs qb0 qb1 qb2 qb3 qt0 qt1 qt2 qt3 qr0 qr1 qr2 qr3
          rintro e wr2 ⟨vb, rfl, hRb, hCb⟩
          have hCb0 := ((Chg.refl (fun _ => False) wq).alloc (.cells #[.int .i64 1, .int .i64 4, .int .i64 0, .int .i64 0, .int .i64 2, .int .i64 1, .int .i64 2, .int .i64 7, .int .i64 1, .int .i64 4, .int .i64 0, .int .i64 0, .int .i64 3, .int .i64 5, .int .i64 0, .int .i64 8] 23)).tr hCb
          replace hbg := hbg.chg hCb0 id
          replace hti := hti.chg hCb0 id
          replace hru := hru.chg hCb0 id
          replace hC9 := hC9.tr hCb0
          have hSb := hCb.size
          clear hCb
          replace hL1 := hL1.chg hCb0 id id (fun _ _ => id)
          have hn := newB_any 4 ⟨1, 4, 0, 0⟩ [⟨2, 1, 2, 7⟩, ⟨1, 4, 0, 0⟩, ⟨3, 5, 0, 8⟩] vb wr2 hRb.pay (by simp) (by simp [Nt.may, mayB, inB, Nt.ok, In64]) true [⟨2, 1, 2, 7⟩] [⟨2, 1, 2, 7⟩] (by decide) (by simp [takeM]) (by simp [fil])
          clear hRb
          go_wp2_with fail
          refine hn.mono ?_
          clear hn
          rintro e ws ⟨lb2, mb2, ba2, vl2, st2, rfl, hL2, _, hCb⟩
          replace hL1 := hL1.chg hCb id id (fun _ _ => id)
          replace hbg := hbg.chg hCb id
          replace hti := hti.chg hCb id
          replace hru := hru.chg hCb id
          replace hC9 := hC9.tr hCb
          have qb0 : ws.cell? ⟨w6.heap.size + 1, 0, none⟩ = some (.int .i64 1) := hbg.c0
          have qb1 : ws.cell? ⟨w6.heap.size + 1, 1, none⟩ = some (.int .i64 4) := hbg.c1
          have qb2 : ws.cell? ⟨w6.heap.size + 1, 2, none⟩ = some (.int .i64 0) := hbg.c2
          have qb3 : ws.cell? ⟨w6.heap.size + 1, 3, none⟩ = some (.int .i64 0) := hbg.c3
          have qt0 : ws.cell? ⟨w6.heap.size + 1 + 1, 0, none⟩ = some (.int .i64 2) := hti.c0
          have qt1 : ws.cell? ⟨w6.heap.size + 1 + 1, 1, none⟩ = some (.int .i64 1) := hti.c1
          have qt2 : ws.cell? ⟨w6.heap.size + 1 + 1, 2, none⟩ = some (.int .i64 2) := hti.c2
          have qt3 : ws.cell? ⟨w6.heap.size + 1 + 1, 3, none⟩ = some (.int .i64 7) := hti.c3
          have qr0 : ws.cell? ⟨w6.heap.size + 1 + 1 + 1, 0, none⟩ = some (.int .i64 3) := hru.c0
          have qr1 : ws.cell? ⟨w6.heap.size + 1 + 1 + 1, 1, none⟩ = some (.int .i64 5) := hru.c1
          have qr2 : ws.cell? ⟨w6.heap.size + 1 + 1 + 1, 2, none⟩ = some (.int .i64 0) := hru.c2
          have qr3 : ws.cell? ⟨w6.heap.size + 1 + 1 + 1, 3, none⟩ = some (.int .i64 8) := hru.c3
          go_wp2_with fail
          have hbs := bytes9_any _ [⟨1, 4, 0, 0⟩] _ (nts_lit ws #[.int .i64 1, .int .i64 4, .int .i64 0, .int .i64 0] 23 [⟨1, 4, 0, 0⟩] 1 rfl) (by simp [Nt.ok, In64]) (by simp)
          refine hbs.mono ?_
          clear hbs qb0 qb1 qb2 qb3 qt0 qt1 qt2 qt3 qr0 qr1 qr2 qr3
          rintro e wg ⟨vb, rfl, hRb, hCb⟩
          have hCb0 := ((Chg.refl (fun _ => False) ws).alloc (.cells #[.int .i64 1, .int .i64 4, .int .i64 0, .int .i64 0] 23)).tr hCb
          have hSb := hCb.size
          clear hCb
          obtain ⟨vs, hR1, hR2⟩ := hRb
          obtain ⟨aob, Lb, cb2, rfl, hLb⟩ := owns_name hR1
          have HR2 := Lib.hid hR2
          clear hR2
          have hb1 : (ws.alloc (.cells #[.int .i64 1, .int .i64 4, .int .i64 0, .int .i64 0] 23)).heap.size ≤ wg.heap.size := hSb
          go_wp2_with (at_builtin; (refine wpList_append_own_any rfl (.tmp 191) (.tmp 193) 36 rfl (ws.alloc (.cells #[.int .i64 1, .int .i64 4, .int .i64 0, .int .i64 0] 23)).heap.size 24 i0 (.slice none 0 0) 1 24 und_pays hi hz0 hz1 hz2 rfl (by decide) _ _ _ rfl ((hR1.alloc (.cells #[.int .u8 1] 5)).alloc _) (some ⟨wg.heap.size + 1, 0, none⟩) 2 2 [.slice (some ⟨wg.heap.size, 0, none⟩) 1 1, .slice none 0 0] rfl rfl (fun j u hu => ⟨_, rfl, by rw [Addr.add_lit, Nat.zero_add]; exact new_cell1 wg _ _ _ (by simpa using hu)⟩) (by simp [Value.oneCell']) (by simp [maxLen]) (by simp) (by simp at hb1; simp; omega) ?_; intro v2 w2 hown2 hg2 _ hO2))
          have hP2 := RowP.two hR1 HR2.out hown2 hg2
          have hCw : Chg (fun _ => False) ws w2 := ((hCb0.alloc (.cells #[.int .u8 1] 5)).alloc (.cells #[.slice (some ⟨wg.heap.size, 0, none⟩) 1 1, .slice none 0 0] 24)).grown hg2 (fun k e => .inr (by have := (hR1.lt k e).1; simp at this; omega))
          replace hL1 := hL1.chg hCw id id (fun _ _ => id)
          replace hL2 := hL2.chg hCw id id (fun _ _ => id)
          replace hti := hti.chg hCw id
          replace hC9 := hC9.tr hCw
          simp only [List.map_cons, List.map_nil] at hP2
          obtain ⟨bl1, bl2⟩ := broken_log ⟨1, 4, 0, 0⟩ (by simp [Nt.may, mayB, inB, Nt.ok, In64]) 4 ⟨rfl, rfl⟩
          have hn := newP_any 4 _ v2 w2 hP2 (by simp) (fun xs hx => by
            simp only [List.cons_append, List.nil_append, List.mem_cons, List.not_mem_nil, or_false] at hx
            rcases hx with rfl | rfl | rfl
            · obtain ⟨_, _, _, h17⟩ := enc_may (x := ⟨1, 4, 0, 0⟩) (by simp [Nt.may, mayB, inB]) (by simp [Nt.ok, In64])
              rw [h17]
              decide
            · decide
            · decide) true [] [] bl1 bl2 rfl
          clear hCw hP2 HR2 hR1 hown2 hg2 hO2 hCb0 hSb hb1 hbg hru bl1 bl2 hLb
          go_wp2_with fail
          refine hn.mono ?_
          clear hn
          rintro e w3 ⟨lb3, mb3, ba3, vl3, st3, rfl, hL3, _, hCb⟩
          replace hL1 := hL1.chg hCb id id (fun _ _ => id)
          replace hL2 := hL2.chg hCb id id (fun _ _ => id)
          replace hti := hti.chg hCb id
          replace hC9 := hC9.tr hCb
          clear hCb
          go_wp2_with (first
            | (go_at_call 18; (with_reducible refine (begun_any hL1).mono ?_); rintro e wv ⟨rfl, rfl⟩)
            | (go_at_call 16; (have hz := notes_any hL1 (by simp); (with_reducible refine hz.mono ?_); clear hz; rintro e wx ⟨vx, rfl, hox, hCx⟩; obtain ⟨aox, Lx, cx, rfl, hLx⟩ := owns_name hox; have hLx' : Lx = 0 := hLx.out; subst hLx'; have hL1b := hL1.chg hCx id id (fun _ _ => id)))
            | (go_at_call 26; have hz := steps_is hL1b (by simp) (by simp) 0 rfl; (with_reducible refine hz.mono ?_); clear hz; rintro e wy ⟨rfl, hCy⟩; have hXY := hCx.tr hCy; have hL2b := hL2.chg hXY id id (fun _ _ => id); have hL3b := hL3.chg hXY id id (fun _ _ => id))
            | (go_at_call 18; (with_reducible refine (begun_any hL2b).mono ?_); rintro e wv ⟨rfl, rfl⟩)
            | (go_at_call 16; have hz := notes_any hL2b (by simp); (with_reducible refine hz.mono ?_); clear hz; rintro e wz ⟨vz, rfl, hoz, hCz⟩; obtain ⟨aoz, Lz, cz, rfl, hLz⟩ := owns_name hoz; have hLz' : Lz = 1 := hLz.out; subst hLz'; have hL3c := hL3b.chg hCz id id (fun _ _ => id))
            | (go_at_call 18; (with_reducible refine (begun_any hL3c).mono ?_); rintro e wv ⟨rfl, rfl⟩)
            | (go_at_call 16; have hz := notes_any hL3c (by simp); (with_reducible refine hz.mono ?_); clear hz; rintro e wm ⟨vm, rfl, hom, hCm⟩; obtain ⟨aom, Lm, cm, rfl, hLm⟩ := owns_name hom; have hLm' : Lm = 0 := hLm.out; subst hLm')
            | (go_at_call 15; have hz := fun w => newP_any 0 [] _ w (pay_nil w) (by simp) (by simp) false [] [] rfl rfl rfl; (with_reducible refine (hz _).mono ?_); clear hz; rintro e wn ⟨lb4, mb4, ba4, vl4, st4, rfl, hL4, _, hCn⟩
               have hCd := hXY.tr (hCz.tr (hCm.tr hCn))
               replace hti := hti.chg hCd id
               replace hC9 := hC9.tr hCd
               have qt0 : wn.cell? ⟨w6.heap.size + 1 + 1, 0, none⟩ = some (.int .i64 2) := hti.c0
               have qt1 : wn.cell? ⟨w6.heap.size + 1 + 1, 1, none⟩ = some (.int .i64 1) := hti.c1
               have qt2 : wn.cell? ⟨w6.heap.size + 1 + 1, 2, none⟩ = some (.int .i64 2) := hti.c2
               have qt3 : wn.cell? ⟨w6.heap.size + 1 + 1, 3, none⟩ = some (.int .i64 7) := hti.c3)
            | (go_at_call 18; (with_reducible refine (begun_any hL4).mono ?_); rintro e wv ⟨rfl, rfl⟩))
          have hbs := bytes9_any _ [⟨2, 1, 2, 7⟩] _ (nts_lit wv #[.int .i64 2, .int .i64 1, .int .i64 2, .int .i64 7] 23 [⟨2, 1, 2, 7⟩] 1 rfl) (by simp [Nt.ok, In64]) (by simp)
          refine hbs.mono ?_
          clear hbs qt0 qt1 qt2 qt3 hL1 hL2 hL3 hL1b hL2b hL3b hL3c hL4 hti hox hoz hom
          rintro e wk ⟨vb, rfl, hRb, hCb⟩
          have hn := newB_any 4 ⟨2, 1, 2, 7⟩ [] vb wk hRb.pay (by simp) (by simp [Nt.may, mayB, inB, Nt.ok, In64]) false [] [] (by decide) rfl rfl
          clear hRb
          replace hC9 := (hC9.alloc (.cells #[.int .i64 2, .int .i64 1, .int .i64 2, .int .i64 7] 23)).tr hCb
          clear hCb
          go_wp2_with fail
          refine hn.mono ?_
          clear hn
          rintro e wl ⟨lb5, mb5, ba5, vl5, st5, rfl, hL5, _, hCb⟩
          replace hC9 := hC9.tr hCb
          clear hCb hCx hCy hXY hCz hCm hCn hCd
          have tn : ∀ w, Calls Try.prog 23 #[.pointer none, .int .i64 0, .int .i64 0] w (fun e w' => e = .returned (.tuple #[.int .i64 0, .bool false]) ∧ Chg (fun _ => False) w w') := fun w => tile_none 0 0 w
          go_wp2_with (first
            | (go_at_call 18; (with_reducible refine (begun_any hL5).mono ?_); rintro e wv ⟨rfl, rfl⟩)
            | (go_at_call 23; (with_reducible refine (tn _).mono ?_); rintro e w10 ⟨rfl, hC10⟩; replace hC9 := hC9.tr hC10)
            | (go_at_call 13; (with_reducible refine (alive9_any _).mono ?_); rintro e w11 ⟨rfl, hC11⟩; replace hC9 := hC9.tr hC11)
            | (go_at_call 18; (with_reducible refine (begun_none _).mono ?_); rintro e wv ⟨rfl, rfl⟩)
            | (go_at_call 20; (with_reducible refine (done_none 0 _).mono ?_); rintro e w12 ⟨rfl, hC12⟩; replace hC9 := hC9.tr hC12)
            | (go_at_call 26; (with_reducible refine (steps_none _).mono ?_); rintro e w13 ⟨rfl, hC13⟩; replace hC9 := hC9.tr hC13)
            | (go_at_call 16; (with_reducible refine (notes_none _).mono ?_); rintro e wv ⟨rfl, rfl⟩))
          go_ret
          exact ⟨rfl, hC9⟩
end Go.Proofs.Ytpiboaoifcajdaa
