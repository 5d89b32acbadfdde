/- pick: copies of a place. -/
import Derived.Test.YtnjnajbdpaaikaaArG
import Derived.Test.YtnjnajbdpaaikaaPkB
import Derived.Lib.Mul64
import Derived.Laws.Bits64b
import Derived.Laws.CopyOwn
import Derived.Deep.RegionLaw
import Derived.Deep.OwnRows
namespace Go.Proofs.Ytnjnajbdpaaikaa
open Go.RowKit Go.Shelf

theorem maskM (a : Nat) (ha : a < 18446744073709551616) : bits .and .u64 (a : Int) 4294967295 = ((a % 4294967296 : Nat) : Int) := by
  have h := bits_and_u64_nat a 4294967295 ha (by omega)
  rw [show a &&& 4294967295 = a % 4294967296 from Nat.and_two_pow_sub_one_eq_mod a 32] at h
  exact h
theorem divM (a : Nat) : (a : Int) / 4294967296 = ((a / 4294967296 : Nat) : Int) := by omega
theorem mulM (a b : Nat) : (a : Int) * (b : Int) = ((a * b : Nat) : Int) := (Int.natCast_mul a b).symm
theorem addM (a b : Nat) : (a : Int) + (b : Int) = ((a + b : Nat) : Int) := (Int.natCast_add a b).symm
theorem wrapU (a : Nat) (ha : a < 18446744073709551616) : IntKind.u64.wrap (a : Int) = (a : Int) := by rw [IntKind.wrap_u64]; omega
theorem wrapV (a : Nat) : IntKind.u64.wrap (a : Int) = ((a % 18446744073709551616 : Nat) : Int) := by rw [IntKind.wrap_u64]; omega
set_option maxHeartbeats 1000000 in
theorem mul64_any (x y : Nat) (hx : x < 18446744073709551616) (hy : y < 18446744073709551616) (w : World) :
    Calls Try.prog 103 #[.int .u64 (x : Int), .int .u64 (y : Int)] w fun e w' => e = .returned (.tuple #[.int .u64 ((x * y / 18446744073709551616 : Nat) : Int), .int .u64 ((x * y % 18446744073709551616 : Nat) : Int)]) ∧ w' = w := by
  obtain ⟨bd, bt, bw, hhi⟩ := Lib.mul64_hi x y hx hy
  have ba := Lib.half_mul_le (a := x / 4294967296) (b := y / 4294967296) (by omega) (by omega)
  have bb := Lib.half_mul_le (a := x / 4294967296) (b := y % 4294967296) (by omega) (by omega)
  have bc := Lib.half_mul_le (a := x % 4294967296) (b := y / 4294967296) (by omega) (by omega)
  have ba' : x / 4294967296 * (y / 4294967296) < 18446744073709551616 := by omega
  have bb' : x / 4294967296 * (y % 4294967296) < 18446744073709551616 := by omega
  have bc' : x % 4294967296 * (y / 4294967296) < 18446744073709551616 := by omega
  have bh1 : x / 4294967296 * (y / 4294967296) + (x / 4294967296 * (y % 4294967296) + x % 4294967296 * (y % 4294967296) / 4294967296) / 4294967296 < 18446744073709551616 := by omega
  have bh : x / 4294967296 * (y / 4294967296) + (x / 4294967296 * (y % 4294967296) + x % 4294967296 * (y % 4294967296) / 4294967296) / 4294967296 + ((x / 4294967296 * (y % 4294967296) + x % 4294967296 * (y % 4294967296) / 4294967296) % 4294967296 + x % 4294967296 * (y / 4294967296)) / 4294967296 < 18446744073709551616 := by omega
  go_enter Try.func103, Try.ntmps103
  go_wp2
  simp only [maskM x hx, maskM y hy, divM, mulM, addM, wrapU _ bd, wrapU _ bb', wrapU _ bt, maskM _ bt, wrapU _ bc', wrapU _ bw, wrapU _ ba', wrapU _ bh1, wrapU _ bh, wrapV (x * y)]
  rw [hhi]
  go_ret2
  exact ⟨rfl, rfl⟩
theorem bitsMul_one (n : Nat) (hn : n ≤ 4096) (w : World) : Calls Try.prog 100 #[.int .u64 1, .int .u64 (n : Int)] w (fun e w' => e = .returned (.tuple #[.int .u64 0, .int .u64 (n : Int)]) ∧ w' = w) := by
  have h := mul64_any 1 n (by decide) (by omega) w
  rw [show (1 * n / 18446744073709551616 : Nat) = 0 by omega, show (1 * n % 18446744073709551616 : Nat) = n by omega] at h
  go_enter Try.func100, Try.ntmps100
  go_wp2_with fail
  refine h.mono ?_
  rintro e9 w1 ⟨rfl, rfl⟩
  go_wp2
  go_ret2
  exact ⟨rfl, rfl⟩
/-- A row of which the first m cells are filled. -/
def rowR (k : Int) (n m : Nat) : List Value := List.replicate m (I k) ++ List.replicate (n - m) (I 0)
theorem rowR_length {k : Int} {n m : Nat} (h : m ≤ n) : (rowR k n m).length = n := by
  unfold rowR
  rw [List.length_append, List.length_replicate, List.length_replicate]
  omega
theorem rowR_splice {k : Int} {n m q : Nat} (h : m + q ≤ n) : splice (rowR k n m) m (List.replicate q (I k)) = rowR k n (m + q) := by
  unfold splice rowR
  rw [List.take_append_of_le_length (by simp), List.take_of_length_le (by simp), List.length_replicate, List.drop_append, List.drop_eq_nil_of_le (by simp), List.nil_append, List.drop_replicate, List.length_replicate, ← List.append_assoc, List.replicate_append_replicate]
  congr 2
  omega
theorem rowR_one (k : Int) (m : Nat) : ∀ v ∈ List.replicate m (I k), v.oneCell' = true := by
  intro v hv
  rw [(List.mem_replicate.1 hv).2]
  rfl
theorem rowR_get {k : Int} {n m j : Nat} (h : j < m) : (rowR k n m)[j]? = some (I k) := by
  unfold rowR
  rw [List.getElem?_append_left (by simpa using h)]
  simp [h]
theorem rowR_made (n : Nat) : madeCells #[Value.int .i64 0] n = (rowR 0 n 0).toArray := by
  refine Array.ext (by simp [size_madeCells, rowR]) (fun i h1 h2 => ?_)
  simp [madeCells, rowR, I, Nat.mod_one]
theorem rowR_zero (k : Int) (n : Nat) : rowR k n 0 = rowR 0 n 0 := by simp [rowR]
theorem cell_row {w : World} {g : Nat} {L : List Value} {t : TypeId} (h : w.heap[g]? = some (.cells L.toArray t (0, 0))) {j : Nat} {v : Value} (hj : L[j]? = some v) : w.cell? ⟨g, j, none⟩ = some v := by
  unfold World.cell?
  simp only [h]
  simpa using hj
theorem chg_below {w w' : World} (h : Below w.heap.size w w') : Chg (fun _ => False) w w' := (Chg.of_below h).mono (fun i hi h => by omega)
theorem own_row {w : World} {base g n : Nat} {k : Int} (h : w.heap[g]? = some (.cells (rowR k n n).toArray 3 (0, 0))) (hb : base ≤ g) (hn : n ≤ 4096) : Own w base 3 (.slice (some ⟨g, 0, none⟩) n n) (List.replicate n k) := by
  unfold Own
  rw [List.length_replicate]
  refine ⟨by simp, .inr ⟨g, n, _, rfl, hb, h, Nat.le_refl _, by unfold maxLen; omega, ?_, ?_⟩⟩
  · simp [rowR]
  · simp [rowR, I]
set_option maxRecDepth 100000 in
set_option maxHeartbeats 1000000 in
theorem repeat_any (b o c n : Nat) (k : Int) (w : World) (hk : w.cell? ⟨b, o, none⟩ = some (.int .i64 k)) (hn : n ≤ 4096) : Calls Try.prog 91 #[.slice (some ⟨b, o, none⟩) 1 c, .int .i64 (n : Int)] w (GaveL 3 w (List.replicate n k)) := by
  have hmul := bitsMul_one n hn
  have hmk := fun w => run_make_row' (P := Try.prog) 22 3 (.int .i64 0) 8 Try.underlying22 info_int rfl .i64 .i64 n (by omega) (by omega) w
  rw [rowR_made] at hmk
  obtain ⟨w1, hw1⟩ : ∃ w1, w.alloc (.cells (rowR 0 n 0).toArray 3) = w1 := ⟨_, rfl⟩
  have hrow : w1.heap[w.heap.size]? = some (.cells (rowR k n 0).toArray 3 (0, 0)) := by rw [← hw1, rowR_zero]; exact heap_alloc_new w _
  have hC1 : Chg (fun _ => False) w w1 := by rw [← hw1]; exact (Chg.refl _ _).alloc _
  have k1 := hC1.cell hk id
  have c1 : IntKind.u64.wrap 1 = 1 := rfl
  have c2 : IntKind.u64.wrap (n : Int) = (n : Int) := wrapU n (by omega)
  have c3 : IntKind.i64.wrap (n : Int) = (n : Int) := IntWalk.i64_in _ (by omega)
  have d1 : decide ((9223372036854775807 : Int) < (n : Int)) = false := decide_eq_false (by omega)
  have n0 : (0 : Int) ≤ (n : Int) := by omega
  have HW := Lib.hid hw1
  have HB1 := Lib.hid hC1.below
  have hsz : (Try.prog.info? 3).map (·.size) = some 1 := by kernel_rfl
  obtain ⟨q, hq⟩ : ∃ q, Nat.min 1 n = q := ⟨_, rfl⟩
  have HQ := Lib.hid (show q = Nat.min 1 n ∧ q ≤ n ∧ q ≤ 1 ∧ (q = 0 → n = 0) from ⟨hq.symm, by rw [← hq]; exact Nat.min_le_right _ _, by rw [← hq]; exact Nat.min_le_left _ _, fun h => by rw [← hq] at h; simp only [Nat.min_def] at h; split at h <;> omega⟩)
  obtain ⟨CS, hcs⟩ : ∃ CS, List.replicate q (I k) = CS := ⟨_, rfl⟩
  have HCS := Lib.hid hcs
  have HL := Lib.hid (show CS.length = q by rw [← hcs]; simp)
  have HCELL := Lib.hid (show ∀ j v, CS[j]? = some v → (w.alloc (.cells (rowR 0 n 0).toArray 3)).cell? ((⟨b, o, none⟩ : Addr).add j) = some v from fun j v hj => by
    rw [← hcs, List.getElem?_replicate] at hj
    split at hj
    · rename_i hjq
      obtain rfl : j = 0 := by have := HQ.out.2.2.1; omega
      cases hj
      rw [hw1, Addr.add_lit]
      exact k1
    · cases hj)
  have hfit : ∀ m, m ≤ n → (rowR k n m).length = n := fun m h => rowR_length h
  have HFIT := Lib.hid hfit
  clear hC1 hw1 hq hcs hk hfit
  go_enter Try.func91, Try.ntmps91
  go_wp2_with fail
  refine (hmul _).mono ?_
  clear hmul
  rintro e9 w2 ⟨rfl, rfl⟩
  go_wp2_with (refine wpList_copy_splice rfl (.tmp 31) (.tmp 32) 22 22 rfl 3 Try.underlying22 hsz (some ⟨w2.heap.size, 0, none⟩) (some ⟨b, o, none⟩) n n 1 c rfl rfl w2.heap.size 0 (rowR k n 0) 3 (by rw [HW.out]; exact hrow) CS (by rw [HL.out, HQ.out.1]) (fun _ => ⟨rfl, _, rfl, fun j v hj => HCELL.out j v hj⟩) (by rw [HL.out, rowR_length (Nat.zero_le _)]; have := HQ.out.2.1; omega) (by rw [← HCS.out]; exact rowR_one k q) w2.heap.size w2 (by rw [HW.out]; exact HB1.out) (Nat.le_refl _) ?_; intro w3 hg3 hb3)
  go_loopw [8] (fun v wr => ∃ m : Nat, m ≤ n ∧ (m = 0 → n = 0) ∧ v = .int .i64 m ∧ wr.heap[w2.heap.size]? = some (.cells (rowR k n m).toArray 3 (0, 0)) ∧ Below w2.heap.size w2 wr) (fun v _ => n - (intOf v).toNat)
  case atStart =>
    have h := hg3.out
    rw [← HCS.out, rowR_splice (by have := HQ.out.2.1; omega), Nat.zero_add] at h
    exact ⟨q, HQ.out.2.1, HQ.out.2.2.2, by rw [HL.out], h, hb3⟩
  case round =>
    obtain ⟨m, hm, hm0, rfl, hg, hb⟩ := hrel
    clear hg3 hb3
    by_cases hlt : m < n
    · have hlt' : (m : Int) < (n : Int) := by omega
      have m0 : (0 : Int) ≤ (m : Int) := by omega
      have hel : Try.prog.elem 22 = 3 := by kernel_rfl
      have s1 : ∀ W, (Instr.slice 22 (.slice (some ⟨w2.heap.size, 0, none⟩) n n) (some (.int .i64 m)) none none).run Try.prog W = .ok (.slice (some ⟨w2.heap.size, m, none⟩) (n - m) (n - m)) W := fun W => by
        rw [run_slice_l W 22 _ n n Try.underlying22 .i64 m (by omega) (by omega)]
        have hsz : ∀ w, (sizeOf 3).run Try.prog w = .ok 1 w := fun w => by kernel_rfl
        rw [hel, hsz]
        simp [sliced, Result.andThen, show ¬ n = m by omega, Addr.add_lit]
      have s2 : ∀ W, (Instr.slice 22 (.slice (some ⟨w2.heap.size, 0, none⟩) n n) none (some (.int .i64 m)) none).run Try.prog W = .ok (.slice (some ⟨w2.heap.size, 0, none⟩) m n) W := fun W => by
        rw [run_slice_h W 22 _ n n Try.underlying22 .i64 m (by omega) (by omega)]
        have hsz : ∀ w, (sizeOf 3).run Try.prog w = .ok 1 w := fun w => by kernel_rfl
        rw [hel, hsz]
        simp [sliced, Result.andThen, Addr.add]
      obtain ⟨p, hp⟩ : ∃ p, Nat.min m (n - m) = p := ⟨_, rfl⟩
      have hp2 : p ≤ m ∧ m + p ≤ n ∧ 0 < p := by rw [← hp]; simp only [Nat.min_def]; split <;> omega
      obtain ⟨C2, hc2⟩ : ∃ C2, List.replicate p (I k) = C2 := ⟨_, rfl⟩
      have hl2 : C2.length = p := by rw [← hc2]; simp
      have kw : IntKind.i64.wrap ((m : Int) + (C2.length : Int)) = ((m + p : Nat) : Int) := by rw [IntWalk.i64_in _ (by omega)]; omega
      have HG := Lib.hid hg
      have HP := Lib.hid (And.intro hp (And.intro hp2 (And.intro hc2 hl2)))
      have HBB := Lib.hid hb
      have HLT := Lib.hid hlt
      clear hg hp hp2 hc2 hl2 hb hm0 hlt hm hel
      go_wp2
      go_region_law (refine step_copy_splice (by rfl) (.tmp 41) (.tmp 44) 22 22 (by rfl) 3 Try.underlying22 hsz (some ⟨w2.heap.size, m, none⟩) (some ⟨w2.heap.size, 0, none⟩) (n - m) (n - m) m n (by simp [Act.eval, Act.put]) (by simp [Act.eval, Act.put]) w2.heap.size m (rowR k n m) 3 HG.out C2 (by rw [HP.out.2.2.2, HP.out.1]) (fun _ => ⟨rfl, _, rfl, fun j v hj => by
          rw [← HP.out.2.2.1, List.getElem?_replicate] at hj
          split at hj
          · cases hj
            rw [Addr.add_lit, Nat.zero_add]
            exact cell_row (w := wr) HG.out (rowR_get (by have := HP.out.2.1; omega))
          · cases hj⟩) (by rw [HP.out.2.2.2, HFIT.out m (by have := HLT.out; omega)]; have := HP.out.2.1; omega) (by rw [← HP.out.2.2.1]; exact rowR_one k p) w2.heap.size w2 (HBB.out.drew) (Nat.le_refl _) ?_; intro w4 hg4 hb4)
      all_goals
        simp only [Act.put, List.getElem_toArray, List.getElem_cons_succ, List.getElem_cons_zero, List.setIfInBounds_toArray, List.set_cons_succ, List.set_cons_zero]
        go_wp2
        go_roundw
        case rel =>
          have h := hg4.out
          rw [← HP.out.2.2.1, rowR_splice (by have := HP.out.2.1; omega)] at h
          exact ⟨m + p, by have := HP.out.2.1; omega, fun h => by have := HP.out.2.1; omega, rfl, h, hb4⟩
        case measure =>
          have := HP.out.2.1
          have := HLT.out
          simp [intOf]
          omega
    · obtain rfl : m = n := by omega
      have HO := Lib.hid (own_row hg (Nat.le_refl _) hn)
      have HBB := Lib.hid hb
      have hmm : ¬ (m : Int) < (m : Int) := by omega
      clear hg hb
      go_wp2
      go_ret
      exact ⟨_, rfl, HO.out, chg_below HBB.out⟩
end Go.Proofs.Ytnjnajbdpaaikaa
