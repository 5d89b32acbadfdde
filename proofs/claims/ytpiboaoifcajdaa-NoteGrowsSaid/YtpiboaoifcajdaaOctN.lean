/- The number that the next bytes are: a range over an iterator. -/
import Derived.Test.YtpiboaoifcajdaaOctR
import Derived.Test.YtpiboaoifcajdaaRange
namespace Go.Proofs.Ytpiboaoifcajdaa
open Go.RowKit Go.Shelf
attribute [local go_sem] Oper.semAt_some

/-- The first k of some bytes, each with its place. -/
def idxTo (l : List UInt8) (k : Nat) : List (Nat × UInt8) := (List.range k).map fun j => (j, l[j]?.getD 0)
theorem idxTo_succ (l : List UInt8) (k : Nat) : idxTo l (k + 1) = idxTo l k ++ [(k, l[k]?.getD 0)] := by simp [idxTo, List.range_succ]
theorem idxTo_length (l : List UInt8) (k : Nat) : (idxTo l k).length = k := by simp [idxTo]
def encA (x : Nat × UInt8) : Array Value := #[.int .i64 (x.1 : Int), B x.2]

theorem Rdr.below {n₀ : Nat} {w w' : World} {b : Nat} {v : Value} {xs : List UInt8} {pos : Nat} (h : Rdr w b v xs pos) (hB : Below n₀ w w') (hb : b < n₀) (hv : ∀ k, v.ownBlock = some k → k < n₀) : Rdr w' b v xs pos :=
  h.chg (Chg.of_below hB) (by omega) (fun k hk => by have := hv k hk; omega)

set_option maxRecDepth 100000 in
set_option maxHeartbeats 1000000 in
theorem ahead1_in (l Bs n₀ b : Nat) (v : Value) (xs : List UInt8) (pos : Nat) (_hb : b < n₀) (hv : ∀ k, v.ownBlock = some k → k < n₀) (J Jx : List (Nat × UInt8) → World → Prop)
    (hY : ∀ pre x W1, J pre W1 → pre.length < xs.length - pos → YieldAt Fence.wide 6 Try.prog l (encA x) W1 fun e W' =>
      (e = .returned (.bool true) ∧ J (pre ++ [x]) W' ∧ Below n₀ W1 W') ∨ (e = .returned (.bool false) ∧ Jx (pre ++ [x]) W'))
    (W : World) (hJ : AbidesFrom W.heap.size J) (hBs : W.cell? ⟨Bs, 0, none⟩ = some (.pointer (some ⟨b, 0, none⟩))) (hR : Rdr W b v xs pos) (h0 : J [] W) :
    CallsIn Fence.wide 7 Try.prog 50 #[.func (.yield l) #[] #[], .pointer (some ⟨Bs, 0, none⟩)] W fun e W' => (∃ v, e = .returned v) ∧
      ((∃ ys, ys = idxTo (xs.drop pos) (xs.length - pos) ∧ J ys W') ∨ (∃ pre, (∃ k, k ≤ xs.length - pos ∧ pre = idxTo (xs.drop pos) k) ∧ Jx pre W')) := by
  have hc0 := hR.c0
  have hc1 := hR.c1
  have hle := hR.le
  have hsm := hR.small
  obtain ⟨ao, c, hS, hO, hcut', hcut, hcut0⟩ := hR.sl.slice 24 5 Try.underlying24 sizeOf_u8 pos xs.length hle (by simp)
  replace hcut := hcut (by simp)
  clear hcut0
  have hO' : ∀ k, (Value.slice ao (xs.length - pos) c).ownBlock = some k → k < n₀ := fun k hk => hv k (hO k hk)
  obtain ⟨a0, c0, rfl, g1, g2, g3⟩ := hR.sl.form
  clear g3
  rw [List.length_map] at g1 hc0 hcut
  have hS' := Lib.hid hS
  have hR' := Lib.hid hR
  have hJd : ∀ q, J [] (W.drewN q) := fun q => hJ [] W _ none h0 (grownBy_drewN W q none) (fun r e => by cases e)
  clear h0 hJ
  have hg : IntKind.i64.wrap ((xs.length : Int) - pos) = (xs.length : Int) - pos := IntWalk.i64_in _ (by omega)
  clear hS hR hO hv
  (refine callsIn_of_wp Try.func50 rfl trivial ?_ rfl; simp only [Try.ntmps50, List.size_toArray, List.length_cons, List.length_nil, Nat.reduceAdd, Nat.reduceSub, Array.replicate_succ, Array.replicate_zero, List.push_toArray, List.append_toArray, List.nil_append, List.cons_append])
  refine wpIn_wide.2 ?_
  go_wp2
  go_quiet (fail)
  go_wp2_with fail
  refine (wpIn_wide (n := 7)).1 ?_
  gi_loopw [15] (fun i wr => ∃ k : Nat, k ≤ xs.length - pos ∧ i = .int .i64 k ∧ J (idxTo (xs.drop pos) k) wr ∧ Below n₀ W wr)
    (fun i _ => (xs.length - pos) - (intOf i).toNat)
  case atStart => exact ⟨0, Nat.zero_le _, rfl, hJd _, below_drewN' _ _ _⟩
  case round =>
    obtain ⟨k, hk, rfl, hJs, hnx⟩ := hrel
    by_cases hlt : k < xs.length - pos
    · obtain ⟨x, hx⟩ : ∃ x : UInt8, x = (xs.drop pos)[k]?.getD 0 := ⟨_, rfl⟩
      obtain ⟨fn, tmps, assign, body, hy, hRd⟩ := hY _ (k, x) wr hJs (by rw [idxTo_length]; exact hlt)
      have hnext : Hid (idxTo (xs.drop pos) (k + 1) = idxTo (xs.drop pos) k ++ [(k, x)]) := by rw [hx]; exact idxTo_succ _ _
      obtain ⟨b1, o1, c1, e1, hcl⟩ := hS'.out.at (j := k) (by simp; omega)
      injection e1 with e1 e2 e3
      subst e1
      have hcx : wr.cell? ⟨b1, o1 + k, none⟩ = some (B x) := by
        rw [hnx.cell (p := ⟨b1, o1 + k, none⟩) (hO' b1 rfl), hcl, hx]
        simp [hlt]
      simp only [encA, B] at hy hcx
      clear hcl e2 e3 hx hcut hcut' hO' hS' hR' hc0 hc1 hJd hJs hg g1 g2 hBs
      gi_wp2
      refine hRd.mono ?_
      rintro e W3 (⟨rfl, hJ3, hk3⟩ | ⟨rfl, hJx3⟩)
      · gi_wp2
        go_roundw
        case rel => exact ⟨k + 1, by omega, by simp, by rw [hnext.out]; exact hJ3, hnx.trans hk3⟩
        case measure => simp [intOf]; omega
      · gi_wp2
        refine bodyPost_ret (results_none rfl _ _ _) rfl ?_
        exact ⟨⟨_, rfl⟩, .inr ⟨_, ⟨k + 1, by omega, hnext.out.symm⟩, hJx3⟩⟩
    · obtain rfl : k = xs.length - pos := by omega
      gi_wp2
      go_end0
      exact ⟨⟨_, rfl⟩, .inl ⟨_, rfl, hJs⟩⟩
theorem ahead_stops (Bs n₀ b : Nat) (v : Value) (xs : List UInt8) (pos : Nat) (hb : b < n₀) (hv : ∀ k, v.ownBlock = some k → k < n₀) (w : World) (hn₀ : n₀ ≤ w.heap.size) (hBs : w.cell? ⟨Bs, 0, none⟩ = some (.pointer (some ⟨b, 0, none⟩))) (hR : Rdr w b v xs pos) :
    SeqStopsK Fence.wide 7 Try.prog 50 #[.pointer (some ⟨Bs, 0, none⟩)] encA (Below n₀) (fun ys => ys = idxTo (xs.drop pos) (xs.length - pos))
      (fun pre => ∃ k, k ≤ xs.length - pos ∧ pre = idxTo (xs.drop pos) k) (xs.length - pos) w := fun l J Jx W hW hJ _ hY h0 =>
  ahead1_in l Bs n₀ b v xs pos hb hv J Jx hY W hJ ((hW.cell (p := ⟨Bs, 0, none⟩) (cell_lt hBs)).trans hBs) (hR.below (hW.mono hn₀) hb hv) h0

set_option maxHeartbeats 400000 in
theorem ahead_any (p : Option Addr) (w : World) : Calls Try.prog 49 #[.pointer p] w fun e w' => e = .returned (.func (.func 50) #[] #[.pointer (some ⟨w.heap.size, 0, none⟩)]) ∧ w' = w.alloc (.cells #[.pointer p] 65) := by
  go_enter Try.func49, Try.ntmps49
  go_wp2
  go_ret
  exact ⟨rfl, rfl⟩

/-- The number that bytes are, in 64 bits. -/
def wholeM (l : List UInt8) : Nat := l.foldl (fun n c => (n * 256 + c.toNat) % 18446744073709551616) 0
theorem wholeM_snoc (l : List UInt8) (c : UInt8) : wholeM (l ++ [c]) = (wholeM l * 256 + c.toNat) % 18446744073709551616 := by simp [wholeM]
theorem wholeM_lt (l : List UInt8) : wholeM l < 18446744073709551616 := by
  rcases List.eq_nil_or_concat l with rfl | ⟨l, c, rfl⟩
  · decide
  · rw [List.concat_eq_append, wholeM_snoc]; exact Nat.mod_lt _ (by decide)

theorem shl_or (m : Nat) (c : UInt8) : bits .or .u64 (IntKind.u64.wrap ((m : Int) * 256)) (IntKind.u64.wrap (c.toNat : Int)) = (((m * 256 + c.toNat) % 18446744073709551616 : Nat) : Int) := by
  have hc := c.toNat_lt
  have e1 : IntKind.u64.wrap ((m : Int) * 256) = ((m * 256 % 18446744073709551616 : Nat) : Int) := by rw [wrap_u64_mod]; omega
  have e2 : IntKind.u64.wrap (c.toNat : Int) = ((c.toNat : Nat) : Int) := by rw [wrap_u64_mod]; omega
  rw [e1, e2, bits_or_u64_nat _ _ (Nat.mod_lt _ (by decide)) (by omega)]
  congr 1
  have e3 : m * 256 % 18446744073709551616 = 2 ^ 8 * (m % 72057594037927936) := by omega
  rw [e3, ← Nat.two_pow_add_eq_or_of_lt (by omega)]
  omega

theorem mem_idxTo {l : List UInt8} {k j : Nat} (h : j < k) : (j, l[j]?.getD 0) ∈ idxTo l k := by
  simp only [idxTo, List.mem_map, List.mem_range]
  exact ⟨j, h, rfl⟩
theorem snd_idxTo {l : List UInt8} {k : Nat} (h : k ≤ l.length) : (idxTo l k).map (·.2) = l.take k := by
  induction k with
  | zero => simp [idxTo]
  | succ k ih =>
    rw [idxTo_succ, List.map_append, ih (by omega), List.take_succ_eq_append_getElem (by omega)]
    simp [List.getElem?_eq_getElem (show k < l.length by omega)]

/-- What number answers. -/
def GaveN (w : World) (l : List UInt8) (sz : Nat) (e : Ending) (w' : World) : Prop :=
  ∃ (n : Nat) (is : Bool), e = .returned (.tuple #[.int .u64 n, .bool is]) ∧ n < 18446744073709551616 ∧ is = decide (sz ≤ l.length) ∧ (is = true → n = wholeM (l.take sz)) ∧ Chg (fun _ => False) w w'

theorem KeepsOthers.drew (W : World) : KeepsOthers W W.drew := ⟨Nat.le_refl _, fun _ _ h _ => h⟩

/-- number's end. -/
theorem number_leave {w W : World} {D D0 m sz : Nat} {is : Bool} {l : List UInt8} {t0 t1 t2 t3 t6 t7 t8 t9 t10 t11 t12 t13 t14 t15 t16 t17 t18 t19 t20 t21 t22 : Value} (hK : W.heap[D]? = some (.deferred (some [])))
    (c2 : W.cell? ⟨w.heap.size + 1, 0, none⟩ = some (.int .u64 (m : Nat))) (c4 : W.cell? ⟨w.heap.size + 1 + 1, 0, none⟩ = some (.bool is)) (hD : D0 ≤ D) (hD0 : w.heap.size ≤ D0) (hB : Below w.heap.size w W)
    (hm : m < 18446744073709551616) (his : is = decide (sz ≤ l.length)) (hw : is = true → m = wholeM (l.take sz)) :
    bodyPostM Fence.wide 8 Try.prog Try.f47 (GaveN w l sz) .ret
      { tmps := #[t0, t1, t2, t3, .pointer (some ⟨w.heap.size + 1, 0, none⟩), .pointer (some ⟨w.heap.size + 1 + 1, 0, none⟩), t6, t7, t8, t9, t10, t11, t12, t13, t14, t15, t16, t17, t18, t19, t20, t21, t22], defers := [{ target := .collected D, args := #[] }] }
      (((W.setCell ⟨w.heap.size + 1, 0, none⟩ (.int .u64 m)).setCell ⟨w.heap.size + 1 + 1, 0, none⟩ (.bool is)).drew) := by
  have hK' := (((KeepsOthers.setCell W ⟨w.heap.size + 1, 0, none⟩ (.int .u64 m)).trans (KeepsOthers.setCell _ ⟨w.heap.size + 1 + 1, 0, none⟩ (.bool is))).trans (KeepsOthers.drew _)).same D _ hK rfl
  have f1 : (((W.setCell ⟨w.heap.size + 1, 0, none⟩ (.int .u64 m)).setCell ⟨w.heap.size + 1 + 1, 0, none⟩ (.bool is)).drew).cell? ⟨w.heap.size + 1, 0, none⟩ = some (.int .u64 (m : Nat)) := by
    show ((W.setCell _ _).setCell _ _).cell? _ = _
    rw [World.cell?_setCell_other _ _ _ _ (by simp), World.cell?_setCell_same' _ _ _ (by rw [c2]; rfl)]
  have f2 : (((W.setCell ⟨w.heap.size + 1, 0, none⟩ (.int .u64 m)).setCell ⟨w.heap.size + 1 + 1, 0, none⟩ (.bool is)).drew).cell? ⟨w.heap.size + 1 + 1, 0, none⟩ = some (.bool is) := by
    show ((W.setCell _ _).setCell _ _).cell? _ = _
    exact World.cell?_setCell_same' _ _ _ (by rw [World.cell?_setCell_other _ _ _ _ (by simp), c4]; rfl)
  have g1 := putObj_cell (o' := .deferred none) hK' rfl f1
  have g2 := putObj_cell (o' := .deferred none) hK' rfl f2
  have hC : Chg (fun k => w.heap.size ≤ k) w W := Chg.of_below hB
  refine leave_mark (v := .tuple #[.int .u64 m, .bool is]) hK' ?_ ⟨m, is, rfl, hm, his, hw, Chg.nothing ((((hC.setCell (p := ⟨w.heap.size + 1, 0, none⟩) (.inl (by simp)) _).setCell (p := ⟨w.heap.size + 1 + 1, 0, none⟩) (.inl (by simp; omega)) _).drew).putObj (.inl (by omega)) _)⟩
  simp [results, Try.f47, go_sem, g1, g2]

set_option maxRecDepth 100000 in
set_option maxHeartbeats 1000000 in
theorem number_any (sz b : Nat) (v : Value) (xs : List UInt8) (pos : Nat) (w : World) (h1 : 1 ≤ sz) (h8 : sz ≤ 8) (hR : Rdr w b v xs pos) :
    Calls Try.prog 47 #[.pointer (some ⟨b, 0, none⟩), .int .i64 sz] w (GaveN w (xs.drop pos) sz) := by
  have hb : b < w.heap.size := cell_lt hR.c0
  have hv := hR.vlt
  obtain ⟨w0, hw0⟩ : ∃ w0, (((w.alloc (.cells #[.int .i64 sz] 3)).alloc (.cells #[.int .u64 0] 60)).alloc (.cells #[.bool false] 4)).alloc (.cells #[.pointer (some ⟨b, 0, none⟩)] 65) = w0 := ⟨_, rfl⟩
  have s0 : w0.heap.size = w.heap.size + 1 + 1 + 1 + 1 := by rw [← hw0]; simp
  have hF : Chg (fun _ => False) w w0 := by rw [← hw0]; exact ((((Chg.refl _ w).alloc _).alloc _).alloc _).alloc _
  have cs : w0.cell? ⟨w.heap.size, 0, none⟩ = some (.int .i64 sz) := by rw [← hw0]; exact alloc_cell (alloc_cell (alloc_cell (new_cell w _ _ rfl) _) _) _
  have cn : w0.cell? ⟨w.heap.size + 1, 0, none⟩ = some (.int .u64 0) ∧ w0.frozen? ⟨w.heap.size + 1, 0, none⟩ = false := by
    have h1 := new_cell (w.alloc (.cells #[.int .i64 sz] 3)) #[.int .u64 0] 60 (i := 0) rfl
    have h2 := new_frozen (w.alloc (.cells #[.int .i64 sz] 3)) #[.int .u64 0] 60 0
    rw [World.size_alloc] at h1 h2
    rw [← hw0]
    exact ⟨alloc_cell (alloc_cell h1 _) _, alloc_frozen (alloc_cell h1 _) (alloc_frozen h1 h2 _) _⟩
  have ci : w0.cell? ⟨w.heap.size + 1 + 1, 0, none⟩ = some (.bool false) ∧ w0.frozen? ⟨w.heap.size + 1 + 1, 0, none⟩ = false := by
    have h1 := new_cell ((w.alloc (.cells #[.int .i64 sz] 3)).alloc (.cells #[.int .u64 0] 60)) #[.bool false] 4 (i := 0) rfl
    have h2 := new_frozen ((w.alloc (.cells #[.int .i64 sz] 3)).alloc (.cells #[.int .u64 0] 60)) #[.bool false] 4 0
    rw [World.size_alloc, World.size_alloc] at h1 h2
    rw [← hw0]
    exact ⟨alloc_cell h1 _, alloc_frozen h1 h2 _⟩
  have cr : w0.cell? ⟨w.heap.size + 1 + 1 + 1, 0, none⟩ = some (.pointer (some ⟨b, 0, none⟩)) := by
    have h1 := new_cell (((w.alloc (.cells #[.int .i64 sz] 3)).alloc (.cells #[.int .u64 0] 60)).alloc (.cells #[.bool false] 4)) #[.pointer (some ⟨b, 0, none⟩)] 65 (i := 0) rfl
    rw [World.size_alloc, World.size_alloc, World.size_alloc] at h1
    rw [← hw0]
    exact h1
  have hR0 := hR.fr hF
  have hBw : Below w.heap.size w w0 := hF.below
  have HW0 := Lib.hid hw0
  clear hw0
  (refine calls_of_wp_marks Try.func47 rfl ?_; simp only [Try.ntmps47, List.size_toArray, List.length_cons, List.length_nil, Nat.reduceAdd, Nat.reduceSub, Array.replicate_succ, Array.replicate_zero, List.push_toArray, List.append_toArray, List.nil_append, List.cons_append])
  go_wp2
  go_step3
  go_wp2
  go_step3
  go_wp2_with (go_at_call 49; refine (ahead_any _ _).mono ?_; rintro e w' ⟨rfl, rfl⟩)
  rw [HW0.out]
  refine wp_range (gf := 50) (lb := #[.pointer (some ⟨w.heap.size + 1 + 1 + 1, 0, none⟩)]) rfl (enters_of Try.func50 (by kernel_rfl) rfl) (n₀ := w.heap.size) (by omega)
    (ahead_stops _ _ b v xs pos hb hv w0 (by omega) cr hR0) (fun _ => rfl)
    (fun pre W => ((W.cell? ⟨w.heap.size, 0, none⟩ = some (.int .i64 sz) ∧ W.cell? ⟨w.heap.size + 1, 0, none⟩ = some (.int .u64 (wholeM (pre.map (·.2)) : Nat)) ∧ W.frozen? ⟨w.heap.size + 1, 0, none⟩ = false ∧ W.cell? ⟨w.heap.size + 1 + 1, 0, none⟩ = some (.bool false) ∧ W.frozen? ⟨w.heap.size + 1 + 1, 0, none⟩ = false) ∧ (∀ x ∈ pre, (x.1 : Int) ≠ sz - 1)) ∧ Below w.heap.size w W)
    (fun c pre W => ((W.cell? ⟨w.heap.size + 1, 0, none⟩ = some (.int .u64 (wholeM (pre.map (·.2)) : Nat)) ∧ W.frozen? ⟨w.heap.size + 1, 0, none⟩ = false ∧ W.cell? ⟨w.heap.size + 1 + 1, 0, none⟩ = some (.bool true) ∧ W.frozen? ⟨w.heap.size + 1 + 1, 0, none⟩ = false) ∧ (c = .exit 0 ∧ ∃ (ini : List (Nat × UInt8)) (last : Nat × UInt8), pre = ini ++ [last] ∧ ((last.1 : Nat) : Int) = sz - 1)) ∧ Below w.heap.size w W)
    (OwnFrom.and (Own.from (fun s A B row hs hg hr => ⟨⟨cell_kept hs.1.1 hg hr, cell_kept hs.1.2.1 hg hr, (frozen_kept hs.1.2.1 hg hr).trans hs.1.2.2.1, cell_kept hs.1.2.2.2.1 hg hr, (frozen_kept hs.1.2.2.2.1 hg hr).trans hs.1.2.2.2.2⟩, hs.2⟩) _) (ownFrom_below (Nat.le_refl _) (by omega)))
    (fun c => OwnFrom.and (Own.from (fun s A B row hs hg hr => ⟨⟨cell_kept hs.1.1 hg hr, (frozen_kept hs.1.1 hg hr).trans hs.1.2.1, cell_kept hs.1.2.2.1 hg hr, (frozen_kept hs.1.2.2.1 hg hr).trans hs.1.2.2.2⟩, hs.2⟩) _) (ownFrom_below (Nat.le_refl _) (by omega)))
    ⟨⟨⟨cs, cn.1, cn.2, ci.1, ci.2⟩, by simp⟩, hBw⟩ ?a1 ?assign ?body ?done ?stop
  case assign =>
    intro l x W K hK
    simp only [encA, B]
    gi_wp2
    exact hK
  case body =>
    rintro l pre x W ⟨⟨⟨c1, c2, c3, c4, c5⟩, hne⟩, hB⟩ _
    clear cs cn ci cr hR0 hBw hF hR
    gi_wp2
    · have hx : ((x.1 : Int) == sz - 1) = true := by assumption
      rw [shl_or]
      refine ⟨((KeepsOthers.setCell _ _ _).trans (KeepsOthers.setCell _ _ _)).from _, ⟨⟨?_, ?_, ?_, ?_⟩, rfl, pre, x, rfl, by simpa using hx⟩, (hB.setCell (p := ⟨w.heap.size + 1, 0, none⟩) (by simp) _).setCell (p := ⟨w.heap.size + 1 + 1, 0, none⟩) (by simp; omega) _⟩
      · rw [World.cell?_setCell_other _ _ _ _ (by simp), World.cell?_setCell_same' _ _ _ (by rw [c2]; rfl), List.map_append, List.map_singleton, wholeM_snoc]
      · rw [World.frozen?_setCell, World.frozen?_setCell]; exact c3
      · exact World.cell?_setCell_same' _ _ _ (by rw [World.cell?_setCell_other _ _ _ _ (by simp), c4]; rfl)
      · rw [World.frozen?_setCell, World.frozen?_setCell]; exact c5
    · have hx : ((x.1 : Int) == sz - 1) = false := by assumption
      rw [shl_or]
      refine ⟨(KeepsOthers.setCell _ _ _).from _, (Below.refl _ W).setCell (p := ⟨w.heap.size + 1, 0, none⟩) (by simp) _, ⟨⟨?_, ?_, ?_, ?_, ?_⟩, ?_⟩, hB.setCell (p := ⟨w.heap.size + 1, 0, none⟩) (by simp) _⟩
      · rw [World.cell?_setCell_other _ _ _ _ (by simp)]; exact c1
      · rw [World.cell?_setCell_same' _ _ _ (by rw [c2]; rfl), List.map_append, List.map_singleton, wholeM_snoc]
      · rw [World.frozen?_setCell]; exact c3
      · rw [World.cell?_setCell_other _ _ _ _ (by simp)]; exact c4
      · rw [World.frozen?_setCell]; exact c5
      · intro y hy
        rcases List.mem_append.1 hy with hy | hy
        · exact hne y hy
        · simp only [List.mem_singleton] at hy
          subst hy
          simpa using hx
  case done =>
    rintro D ys W hD rfl ⟨⟨⟨c1, c2, c3, c4, c5⟩, hne⟩, hB⟩ hK
    have hlt : ¬ sz ≤ xs.length - pos := fun h => hne _ (mem_idxTo (j := sz - 1) (by omega)) (by simp; omega)
    obtain ⟨m, hm, hm2⟩ : ∃ m : Nat, wholeM ((idxTo (xs.drop pos) (xs.length - pos)).map (·.2)) = m ∧ m < 18446744073709551616 := ⟨_, rfl, wholeM_lt _⟩
    rw [hm] at c2
    clear hm cs cn ci cr hR0 hBw hF hR hne
    go_wp2
    go_region
    all_goals
      go_wp2
      exact number_leave hK c2 c4 hD (by omega) hB hm2 (by simpa using hlt) (by simp)
  case stop =>
    rintro D c pre W hD ⟨k, hk, rfl⟩ ⟨⟨⟨c2, c3, c4, c5⟩, rfl, ini, last, e1, e2⟩, hB⟩ hK
    obtain ⟨k', rfl⟩ : ∃ k', k = k' + 1 := by
      cases k with
      | zero => simp [idxTo] at e1
      | succ k' => exact ⟨k', rfl⟩
    have e3 := e1
    rw [idxTo_succ] at e3
    obtain ⟨rfl, e5⟩ := List.append_inj' e3 rfl
    obtain rfl : (k', (xs.drop pos)[k']?.getD 0) = last := by simpa using e5
    have hks : sz = k' + 1 := by simp at e2; omega
    obtain ⟨m, hm, hm2⟩ : ∃ m : Nat, wholeM ((idxTo (xs.drop pos) (k' + 1)).map (·.2)) = m ∧ m < 18446744073709551616 := ⟨_, rfl, wholeM_lt _⟩
    rw [hm] at c2
    rw [snd_idxTo (by simp; omega), ← hks] at hm
    have hle : sz ≤ xs.length - pos := by omega
    have Hm := Lib.hid hm
    clear hm cs cn ci cr hR0 hBw hF hR e1 e2 e3 e5 hks hk
    go_wp2
    go_region
    all_goals
      go_wp2
      exact number_leave hK c2 c4 hD (by omega) hB hm2 (by simpa using hle) (fun _ => Hm.out.symm)
end Go.Proofs.Ytpiboaoifcajdaa
