/- A text's characters. -/
import Derived.Test.YtmmbdhfljabefaaArG
import Derived.Laws.RangeAny
namespace Go.Proofs.Ytmmbdhfljabefaa
open Go.RowKit

def putObj (w : World) (b : Nat) (o : Obj) : World := { w with heap := w.heap.setIfInBounds b o }
theorem putObj_same {w : World} {b : Nat} (o : Obj) (h : b < w.heap.size) : (putObj w b o).heap[b]? = some o := by
  simp [putObj, h]
theorem putObj_chg (w : World) (b : Nat) (o : Obj) : Chg (fun q => q = b) w (putObj w b o) :=
  ⟨rfl, rfl, rfl, by simp [putObj], fun i _ hn => by
    have hne : b ≠ i := fun e => hn e.symm
    simp [putObj, Array.getElem?_setIfInBounds_ne hne]⟩
theorem next_at {w : World} {b : Nat} {s : ByteArray} {j : Nat} (hb : w.heap[b]? = some (.stringIter s j)) (h : j < s.size) (ha : (s[j]'h).toNat < 128) (ty : TypeId) :
    (Instr.next (.pointer (some ⟨b, 0, none⟩)) true ty).run Try.prog w = .ok (.tuple #[.bool true, .int .i64 j, .int .i32 (s[j]'h).toNat]) (putObj w b (.stringIter s (j + 1))) := by
  simp only [Instr.next, getObj, setObj, Sem.run_bind, Sem.run, hb, Result.andThen, h, if_true, decode_ascii s j h ha]
  simp [goInt, putObj]
theorem next_end {w : World} {b : Nat} {s : ByteArray} {j : Nat} (hb : w.heap[b]? = some (.stringIter s j)) (h : ¬ j < s.size) (ty : TypeId) :
    (Instr.next (.pointer (some ⟨b, 0, none⟩)) true ty).run Try.prog w = .ok (.tuple #[.bool false]) w := by
  simp [Instr.next, getObj, Sem.run, hb, h]
theorem iter_pos {w : World} {b : Nat} {s : ByteArray} {j : Nat} (hb : w.heap[b]? = some (.stringIter s j)) : w.iterPos b = j := by
  simp [World.iterPos, hb]
def codes (s : ByteArray) : List Int := s.data.toList.map fun b => (b.toNat : Int)
theorem Mak.off {w W W' : World} {b sb base c : Nat} {k : Int} {v : Value} {xs : List Int} (h : Mak w W b sb base k (.slice none 0 0) v [] xs) (hC : Chg (fun q => q = c) W W') (hc : c ≠ b) (hcb : c < base) (hlo : w.heap.size ≤ c) : Mak w W' b sb base k (.slice none 0 0) v [] xs :=
  ⟨h.bx.chg hC (fun e => hc e.symm), Own.nil _ _ _, h.el.chg hC (fun q hq e => by have := (h.el.lt q hq).1; omega), h.ch.trans hC (fun _ _ h => h) (fun i hi e => by omega), h.lb, h.lt, fun q hq => by cases hq⟩
theorem codes_length (s : ByteArray) : (codes s).length = s.size := by simp [codes]
theorem codes_take {s : ByteArray} {j : Nat} (h : j < s.size) : (codes s).take (j + 1) = (codes s).take j ++ [((s[j]'h).toNat : Int)] := by
  have hl : j < (codes s).length := by rw [codes_length]; exact h
  rw [List.take_succ_eq_append_getElem hl]
  congr 2
  simp [codes]
  rfl
theorem chg3' (w : World) (x : Nat) (a b c : Value) : Chg (fun q => q = x) w (((w.setCell ⟨x, 0, none⟩ a).setCell ⟨x, 1, none⟩ b).setCell ⟨x, 2, none⟩ c) := (((Chg.refl (fun q => q = x) w).setCell (p := ⟨x, 0, none⟩) (.inl rfl) _).setCell (p := ⟨x, 1, none⟩) (.inl rfl) _).setCell (p := ⟨x, 2, none⟩) (.inl rfl) _
set_option maxRecDepth 100000 in
set_option maxHeartbeats 1000000 in
theorem chars_any (s : ByteArray) (w : World) (hn : s.size ≤ 1000) (ha : ∀ j (h : j < s.size), (s[j]'h).toNat < 128) : Calls Try.prog 42 #[.string s] w (GaveA w ⟨2, [(s.size : Int)], codes s⟩) := by
  obtain ⟨i0, hi, hz0, hz1, hz2⟩ := info_parts info_long
  have hB := Bx.new w (.int .i64 0) (.slice none 0 0) (.slice none 0 0) 25
  have hX := Bx.new (w.alloc (.cells #[.int .i64 0, .slice none 0 0, .slice none 0 0] 25)) (.int .i64 2) (.slice none 0 0) (.slice none 0 0) 25
  rw [World.size_alloc] at hX
  have hI := World.iter_heap ((w.alloc (.cells #[.int .i64 0, .slice none 0 0, .slice none 0 0] 25)).alloc (.cells #[.int .i64 2, .slice none 0 0, .slice none 0 0] 25)) s 0
  rw [World.size_alloc, World.size_alloc] at hI
  have hC1 := (Chg.refl (fun _ => False) ((w.alloc (.cells #[.int .i64 0, .slice none 0 0, .slice none 0 0] 25)).alloc (.cells #[.int .i64 2, .slice none 0 0, .slice none 0 0] 25))).alloc (.stringIter s 0)
  have hC0 : Chg (fun _ => False) w (((w.alloc (.cells #[.int .i64 0, .slice none 0 0, .slice none 0 0] 25)).alloc (.cells #[.int .i64 2, .slice none 0 0, .slice none 0 0] 25)).iter s 0) := ((((Chg.refl (fun _ => False) w).alloc _).alloc _).tr hC1)
  have hB0 : Bx (((w.alloc (.cells #[.int .i64 0, .slice none 0 0, .slice none 0 0] 25)).alloc (.cells #[.int .i64 2, .slice none 0 0, .slice none 0 0] 25)).iter s 0) w.heap.size (.int .i64 0) (.slice none 0 0) (.slice none 0 0) := (hB.fr ((Chg.refl _ _).alloc (.cells #[.int .i64 2, .slice none 0 0, .slice none 0 0] 25))).fr hC1
  have hX0 : Bx (((w.alloc (.cells #[.int .i64 0, .slice none 0 0, .slice none 0 0] 25)).alloc (.cells #[.int .i64 2, .slice none 0 0, .slice none 0 0] 25)).iter s 0) (w.heap.size + 1) (.int .i64 2) (.slice none 0 0) (.slice none 0 0) := hX.fr hC1
  have hsz : (((w.alloc (.cells #[.int .i64 0, .slice none 0 0, .slice none 0 0] 25)).alloc (.cells #[.int .i64 2, .slice none 0 0, .slice none 0 0] 25)).iter s 0).heap.size = w.heap.size + 3 := by simp [World.iter]
  clear hB hX hC1
  go_enter Try.func42, Try.ntmps42
  go_wp2
  generalize ((w.alloc (.cells #[.int .i64 0, .slice none 0 0, .slice none 0 0] 25)).alloc (.cells #[.int .i64 2, .slice none 0 0, .slice none 0 0] 25)).iter s 0 = W0 at *
  have hM0 : Mak w W0 (w.heap.size + 1) W0.heap.size W0.heap.size 2 (.slice none 0 0) (.slice none 0 0) [] [] := ⟨hX0, Own.nil _ _ _, Own.nil _ _ _, hC0, Nat.le_succ _, by omega, fun q hq => by cases hq⟩
  have HB0 := Lib.hid hB0
  have HSZ := Lib.hid hsz
  clear hX0 hC0 hB0 hsz
  go_loopw [5] (fun _ wr => ∃ j, j ≤ s.size ∧ wr.heap[w.heap.size + 1 + 1]? = some (.stringIter s j) ∧ (∃ v, Mak w wr (w.heap.size + 1) W0.heap.size W0.heap.size 2 (.slice none 0 0) v [] ((codes s).take j)) ∧ Chg (fun q => q = w.heap.size + 1 ∨ q = w.heap.size + 1 + 1) W0 wr) (fun _ wr => s.size - wr.iterPos (w.heap.size + 1 + 1))
  case atStart => exact ⟨0, Nat.zero_le _, hI, ⟨_, hM0⟩, Chg.refl _ _⟩
  case round =>
    obtain ⟨j, hj, hit, ⟨v, hM⟩, hW⟩ := hrel
    obtain ⟨xs, hxs⟩ : ∃ xs, (codes s).take j = xs := ⟨_, rfl⟩
    have hxl : xs.length ≤ 1000 := by rw [← hxs, List.length_take]; omega
    rw [hxs] at hM
    obtain ⟨al, Ll, cl, rfl, hL⟩ := owns_name hM.el
    by_cases hlt : j < s.size
    · have HT := Lib.hid (codes_take hlt)
      have hnx := next_at hit hlt (ha j hlt)
      have hcb := ha j hlt
      obtain ⟨c, hc⟩ : ∃ c : Nat, (s[j]'hlt).toNat = c := ⟨_, rfl⟩
      rw [hc] at hnx HT hcb
      rw [hxs] at HT
      have hcw : IntKind.i64.wrap (c : Int) = (c : Int) := IntWalk.i64_in _ (by omega)
      have hblt : w.heap.size + 1 + 1 < wr.heap.size := (Array.getElem?_eq_some_iff.1 hit).1
      obtain ⟨wn, hwn⟩ : ∃ wn, putObj wr (w.heap.size + 1 + 1) (.stringIter s (j + 1)) = wn := ⟨_, rfl⟩
      rw [hwn] at hnx
      have hCn : Chg (fun q => q = w.heap.size + 1 + 1) wr wn := hwn ▸ putObj_chg wr _ _
      have hit2 : wn.heap[w.heap.size + 1 + 1]? = some (.stringIter s (j + 1)) := hwn ▸ putObj_same _ hblt
      have hM2 := hM.off hCn (by omega) (by have := HSZ.out; omega) (by omega)
      have c2 := hM2.bx.c2
      have f2 := hM2.bx.f2
      have HM2 := Lib.hid hM2
      have HW := Lib.hid (And.intro hW hCn)
      have HIT := Lib.hid hit2
      have HXS := Lib.hid hxs
      have HP := Lib.hid (iter_pos hit)
      have hxn : w.heap.size + 1 < wn.heap.size := hM2.bx.lt
      have hbw : W0.heap.size ≤ wn.heap.size := Nat.le_trans hW.size hCn.size
      clear hwn hc hxs hit hit2 hM hM2 hW hCn hblt
      go_wp2_with (at_builtin; refine wpList_append_own_any (by rfl) (.tmp 13) (.tmp 16) 23 (by rfl) W0.heap.size 2 i0 (.int .i64 0) 1 8 Try.underlying23 hi hz0 hz1 hz2 rfl (by decide) (.slice al Ll cl) xs.length (xs.map I) (by rfl) (HM2.out.el.alloc _) (some ⟨wn.heap.size, 0, none⟩) 1 1 [.int .i64 (c : Int)] (by rfl) rfl (fun j u hu => ⟨_, rfl, cell_one_new wn _ _ j u hu⟩) (by simp [Value.oneCell']) (by unfold maxLen; omega) (by omega) (by simp; omega) ?_; intro v2 w2 hown2 hg2 _ _; obtain ⟨⟨k2, kf2⟩, hM4⟩ := HM2.out.more ((Chg.refl _ wn).alloc _) hg2 hown2 rfl; have HG := Lib.hid hg2; obtain ⟨al2, L2, cl2, rfl, hL2⟩ := owns_name hM4.el)
      case roundEnd =>
        have h3 : Chg (fun q => (Value.slice al Ll cl).ownBlock = some q) wn w2 := (Chg.mono ((Chg.refl (fun _ => False) wn).alloc _) (fun _ _ h => h.elim)).grown HG.out (fun k e => .inl e)
        have hx3 : w.heap.size + 1 + 1 < wn.heap.size := (Array.getElem?_eq_some_iff.1 HIT.out).1
        have hno : ∀ q, (Value.slice al Ll cl).ownBlock = some q → w.heap.size + 3 ≤ q := fun q hq => by have := (HM2.out.el.lt q hq).1; have := HSZ.out; omega
        have h4 := chg_at w2 (w.heap.size + 1) 2 (.slice al2 L2 cl2)
        have hit4 : (w2.setCell ⟨w.heap.size + 1, 2, none⟩ (.slice al2 L2 cl2)).heap[w.heap.size + 1 + 1]? = some (.stringIter s (j + 1)) := by
          rw [h4.block _ (Nat.lt_of_lt_of_le hx3 h3.size) (by omega), h3.block _ hx3 (fun e => by have := hno _ e; omega)]
          exact HIT.out
        refine ⟨⟨j + 1, hlt, hit4, ⟨_, by rw [HT.out]; exact hM4⟩, ?_⟩, ?_⟩
        · have t1 := HW.out.1.trans HW.out.2 (T := fun q => q = w.heap.size + 1 ∨ q = w.heap.size + 1 + 1) (fun _ _ h => h) (fun _ _ h => .inr h)
          have t2 := t1.trans h3 (T := fun q => q = w.heap.size + 1 ∨ q = w.heap.size + 1 + 1) (fun _ _ h => h) (fun i hi h => by have := hno _ h; have := HSZ.out; omega)
          exact t2.trans h4 (fun _ _ h => h) (fun _ _ h => .inl h)
        · rw [iter_pos hit4, HP.out]
          omega
    · obtain rfl : j = s.size := by omega
      have hnx := next_end hit hlt
      have hxe : xs = codes s := by rw [← hxs, ← codes_length s, List.take_length]
      subst hxe
      rw [codes_length] at hL
      obtain rfl : Ll = s.size := hL
      obtain ⟨z0, z1, z2, f0, f1, f2⟩ := HB0.out.chg hW (by omega)
      obtain ⟨y0, y1, y2, e0, e1, e2⟩ := hM.bx
      have hsz2 : w.heap.size + 1 < wr.heap.size := cell_lt y0
      have hsz3 : w.heap.size < wr.heap.size := by omega
      have HM := Lib.hid hM
      have HW := Lib.hid hW
      clear hit hM hW hxs hlt hj
      have h1 := chg_at wr (w.heap.size + 1) 1 (.slice (some ⟨wr.heap.size, 0, none⟩) 1 1)
      have hB1 : Bx (wr.setCell ⟨w.heap.size + 1, 1, none⟩ (.slice (some ⟨wr.heap.size, 0, none⟩) 1 1)) w.heap.size (.int .i64 0) (.slice none 0 0) (.slice none 0 0) := (Bx.mk z0 z1 z2 f0 f1 f2).chg h1 (by omega)
      obtain ⟨⟨g0, g1⟩, g2⟩ := set3_cells (.int .i64 2) (.slice (some ⟨wr.heap.size, 0, none⟩) 1 1) (.slice al s.size cl) hB1.c0 hB1.c1 hB1.c2
      replace g0 := alloc_cell g0 (.cells #[.int .i64 (s.size : Int)] 3)
      replace g1 := alloc_cell g1 (.cells #[.int .i64 (s.size : Int)] 3)
      replace g2 := alloc_cell g2 (.cells #[.int .i64 (s.size : Int)] 3)
      have H1 := Lib.hid h1
      clear h1 hB1
      go_wp2
      simp [bodyPost, results, Try.results42, go_sem, g0, g1, g2]
      have h3 := chg3' (wr.setCell ⟨w.heap.size + 1, 1, none⟩ (.slice (some ⟨wr.heap.size, 0, none⟩) 1 1)) w.heap.size (.int .i64 2) (.slice (some ⟨wr.heap.size, 0, none⟩) 1 1) (.slice al s.size cl)
      have h4 : Chg (fun q => q = w.heap.size ∨ q = w.heap.size + 1) wr _ := H1.out.trans h3 (fun _ _ h => .inr h) (fun _ _ h => .inl h)
      have h5 := h4.alloc (.cells #[.int .i64 (s.size : Int)] 3)
      have hel := HM.out.el.chg h5 (fun q hq e => by have := (HM.out.el.lt q hq).1; have := HSZ.out; omega)
      have hsh := own_lit ((((wr.setCell ⟨w.heap.size + 1, 1, none⟩ (.slice (some ⟨wr.heap.size, 0, none⟩) 1 1)).setCell ⟨w.heap.size, 0, none⟩ (.int .i64 2)).setCell ⟨w.heap.size, 1, none⟩ (.slice (some ⟨wr.heap.size, 0, none⟩) 1 1)).setCell ⟨w.heap.size, 2, none⟩ (.slice al s.size cl)) 3 [(s.size : Int)] 1 rfl #[.int .i64 (s.size : Int)] rfl (by simp)
      simp only [World.size_setCell] at hsh
      refine ⟨_, rfl, ⟨_, _, rfl, hsh.mono (by omega), hel.mono (by have := HSZ.out; omega)⟩, HM.out.ch.trans h5 (fun _ _ h => h) (fun i hi e => by omega)⟩
end Go.Proofs.Ytmmbdhfljabefaa
