/- mold: a list's numbers as lengths. -/
import Derived.Test.YtceooipljhjpaaaMdA
import Derived.Test.YtceooipljhjpaaaRangeT
namespace Go.Proofs.Ytceooipljhjpaaa
open Go.RowKit Go.Shelf
attribute [local go_sem] Oper.semAt_some

def lenC (x : Int) : Int := if 4096 < x ∨ x < -4096 then 4097 else x
def encL (x : Int) : Array Value := #[.int .i64 x]
theorem lengths_any (ao : Option Addr) (n c : Nat) (w : World) : Calls Try.prog 62 #[.slice ao n c] w fun e w' => e = .returned (.func (.func 97) #[] #[.pointer (some ⟨w.heap.size, 0, none⟩)]) ∧ w' = w.alloc (.cells #[.slice ao n c] 23) := by
  go_enter Try.func62, Try.ntmps62
  go_wp2
  go_ret
  exact ⟨rfl, rfl⟩
theorem Ls.same {w w' : World} {v : Value} {xs : List Int} (h : Ls w v xs) (hs : ∀ q, q < w.heap.size → w'.heap[q]? = w.heap[q]?) : Ls w' v xs :=
  ⟨Sl.form h, fun j u hu => by obtain ⟨b, o, c, rfl, hc⟩ := Sl.cells h j u hu; exact ⟨b, o, c, rfl, (World.cell?_of_block (hs b (cell_lt hc))).trans hc⟩⟩
theorem len_meas (j n : Nat) (h : j < n) : n - (intOf (.int .i64 ((j : Int) + 1))).toNat < n - (intOf (.int .i64 (j : Int))).toNat := by
  simp [intOf]
  omega
set_option maxHeartbeats 1000000 in
theorem lengths1_in (l b0 B0 : Nat) (ao : Option Addr) (n c : Nat) (xs : List Int) (hn : xs.length = n) (hn2 : n ≤ 1000000) (J Jx : List Int → World → Prop)
    (hY : ∀ pre x W1, J pre W1 → pre.length < n → YieldAt Fence.wide 6 Try.prog l (encL x) W1 fun e W' =>
      (e = .returned (.bool true) ∧ J (pre ++ [x]) W' ∧ Keep (fun k => k < B0) W1 W') ∨ (e = .returned (.bool false) ∧ Jx (pre ++ [x]) W'))
    (w0 : World) (hB0 : w0.heap.size = B0) (hP : Ls w0 (.slice ao n c) xs) (W : World) (hW : ∀ q, q < B0 → W.heap[q]? = w0.heap[q]?) (hr : W.cell? ⟨b0, 0, none⟩ = some (.slice ao n c)) (h0 : J [] W) :
    CallsIn Fence.wide 7 Try.prog 97 #[.func (.yield l) #[] #[], .pointer (some ⟨b0, 0, none⟩)] W fun e W' => (∃ v, e = .returned v) ∧
      ((∃ ys, ys = xs.map lenC ∧ J ys W') ∨ (∃ pre, (∃ q, q < n ∧ pre = (xs.map lenC).take (q + 1)) ∧ Jx pre W')) := by
  (refine callsIn_of_wp Try.func97 rfl trivial ?_ rfl; simp only [Try.ntmps97, List.size_toArray, List.length_cons, List.length_nil, Nat.reduceAdd, Nat.reduceSub, Array.replicate_succ, Array.replicate_zero, List.push_toArray, List.append_toArray, List.nil_append, List.cons_append])
  refine wpIn_wide.2 ?_
  go_wp2
  refine (wpIn_wide (n := 7)).1 ?_
  gi_loopw [7] (fun i wr => ∃ k : Nat, k ≤ n ∧ i = .int .i64 k ∧ J ((xs.map lenC).take k) wr ∧ (∀ q, q < B0 → wr.heap[q]? = w0.heap[q]?))
    (fun i _ => n - (intOf i).toNat)
  case atStart => exact ⟨0, Nat.zero_le _, rfl, h0, hW⟩
  case round =>
    obtain ⟨k, hk, rfl, hJs, hsm0⟩ := hrel
    by_cases hlt : k < n
    · have hj2 : (k : Int) < (n : Int) := by omega
      have hkw : IntKind.i64.wrap ((k : Int) + 1) = (k : Int) + 1 := IntWalk.i64_in _ (by omega)
      have hkx : k < xs.length := by omega
      have hnext : (xs.map lenC).take (k + 1) = (xs.map lenC).take k ++ [lenC xs[k]] := by
        rw [List.take_succ_eq_append_getElem (by rw [List.length_map]; exact hkx), List.getElem_map]
      have hl8 : ((xs.map lenC).take k).length < n := by rw [List.length_take, List.length_map]; omega
      obtain ⟨b, o, c', e1, hcell⟩ := (hP.same (w' := wr) (fun q hq => hsm0 q (by omega))).at hkx
      injection e1 with e1 e2 e3
      clear e2 e3
      subst e1
      have hy0 := fun W2 h => hY ((xs.map lenC).take k) (lenC xs[k]) W2 h hl8
      have HN := Lib.hid hnext
      obtain ⟨y, hy⟩ : ∃ y, xs[k] = y := ⟨_, rfl⟩
      rw [hy] at hcell hy0 HN
      simp only [encL] at hy0
      clear hnext hl8 hY hy
      by_cases h1 : 4096 < y
      · have d1 : decide ((4096 : Int) < y) = true := decide_eq_true h1
        have hl : lenC y = 4097 := if_pos (.inl h1)
        rw [hl] at hy0 HN
        clear hl h1
        obtain ⟨fn, tmps, assign, body, hy, hRd⟩ := hy0 _ hJs
        gi_wp2
        refine hRd.mono ?_
        rintro e W3 (⟨rfl, hJ3, hk3⟩ | ⟨rfl, hJx3⟩)
        · gi_wp2
          go_roundw
          case rel => exact ⟨k + 1, Nat.succ_le_of_lt hlt, by go_num, by rw [HN.out]; exact hJ3, fun q hq => (hk3.same q hq).trans (hsm0 q hq)⟩
          case measure => exact len_meas k n hlt
        · gi_wp2
          refine bodyPost_ret (results_none rfl _ _ _) rfl ?_
          exact ⟨⟨_, rfl⟩, .inr ⟨_, ⟨k, hlt, HN.out.symm⟩, hJx3⟩⟩
      · by_cases h2 : y < -4096
        · have d1 : decide ((4096 : Int) < y) = false := decide_eq_false h1
          have d2 : decide (y < (-4096 : Int)) = true := decide_eq_true h2
          have hl : lenC y = 4097 := if_pos (.inr h2)
          clear h2
          rw [hl] at hy0 HN
          clear hl h1
          obtain ⟨fn, tmps, assign, body, hy, hRd⟩ := hy0 _ hJs
          gi_wp2
          refine hRd.mono ?_
          rintro e W3 (⟨rfl, hJ3, hk3⟩ | ⟨rfl, hJx3⟩)
          · gi_wp2
            go_roundw
            case rel => exact ⟨k + 1, Nat.succ_le_of_lt hlt, by go_num, by rw [HN.out]; exact hJ3, fun q hq => (hk3.same q hq).trans (hsm0 q hq)⟩
            case measure => exact len_meas k n hlt
          · gi_wp2
            refine bodyPost_ret (results_none rfl _ _ _) rfl ?_
            exact ⟨⟨_, rfl⟩, .inr ⟨_, ⟨k, hlt, HN.out.symm⟩, hJx3⟩⟩
        · have d1 : decide ((4096 : Int) < y) = false := decide_eq_false h1
          have d2 : decide (y < (-4096 : Int)) = false := decide_eq_false h2
          have hl : lenC y = y := if_neg (fun h => h.elim h1 h2)
          clear h2
          rw [hl] at hy0 HN
          clear hl h1
          obtain ⟨fn, tmps, assign, body, hy, hRd⟩ := hy0 _ hJs
          gi_wp2
          refine hRd.mono ?_
          rintro e W3 (⟨rfl, hJ3, hk3⟩ | ⟨rfl, hJx3⟩)
          · gi_wp2
            go_roundw
            case rel => exact ⟨k + 1, Nat.succ_le_of_lt hlt, by go_num, by rw [HN.out]; exact hJ3, fun q hq => (hk3.same q hq).trans (hsm0 q hq)⟩
            case measure => exact len_meas k n hlt
          · gi_wp2
            refine bodyPost_ret (results_none rfl _ _ _) rfl ?_
            exact ⟨⟨_, rfl⟩, .inr ⟨_, ⟨k, hlt, HN.out.symm⟩, hJx3⟩⟩
    · obtain rfl : k = n := by omega
      rw [List.take_of_length_le (by rw [List.length_map]; omega)] at hJs
      gi_wp2
      go_end0
      exact ⟨⟨_, rfl⟩, .inl ⟨_, rfl, hJs⟩⟩
theorem lengths_seq (b0 B0 : Nat) (ao : Option Addr) (n c : Nat) (xs : List Int) (hn : xs.length = n) (hn2 : n ≤ 1000000) (w0 w : World) (hB0 : w0.heap.size = B0) (hP : Ls w0 (.slice ao n c) xs) (hB : B0 ≤ w.heap.size) (hW : ∀ q, q < B0 → w.heap[q]? = w0.heap[q]?) (hr : w.cell? ⟨b0, 0, none⟩ = some (.slice ao n c)) :
    SeqT Try.prog 97 #[.pointer (some ⟨b0, 0, none⟩)] encL (fun k => k < B0) (fun _ => False) (fun ys => ys = xs.map lenC) (fun pre => ∃ q, q < n ∧ pre = (xs.map lenC).take (q + 1)) n w := fun l J Jx W hWb _ _ hY h0 =>
  lengths1_in l b0 B0 ao n c xs hn hn2 J Jx hY w0 hB0 hP W (fun q hq => (hWb.block q (by omega)).trans (hW q hq)) ((hWb.cell (p := ⟨b0, 0, none⟩) (cell_lt hr)).trans hr) h0
end Go.Proofs.Ytceooipljhjpaaa
