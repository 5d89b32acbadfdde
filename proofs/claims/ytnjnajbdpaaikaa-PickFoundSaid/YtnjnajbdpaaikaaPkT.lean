/- slices' stable sort: two ranges exchanged, two neighbours turned about. -/
import Derived.Test.YtnjnajbdpaaikaaPkS
import Derived.Test.YtnjnajbdpaaikaaArY
import Derived.RegionTactic
import Derived.ChangeAlike
import Derived.BigRegion
namespace Go.Proofs.Ytnjnajbdpaaikaa
open Go.RowKit Go.Shelf

theorem set_at {α : Type} {A B : List α} {u v : α} {n : Nat} (h : n = A.length) : (A ++ u :: B).set n v = A ++ v :: B := by
  subst h
  rw [List.set_append_right _ _ (Nat.le_refl _), Nat.sub_self, List.set_cons_zero]
theorem get_at {α : Type} {A B : List α} {u : α} {n : Nat} (h : n = A.length) : (A ++ u :: B)[n]? = some u := by
  subst h
  simp
theorem get_at' {α : Type} {X A B : List α} {u : α} {n : Nat} (e : X = A ++ u :: B) (h : n = A.length) : ∃ hn : n < X.length, X[n] = u := by
  subst e
  have h2 := get_at (B := B) (u := u) h
  obtain ⟨hn, e⟩ := List.getElem?_eq_some_iff.1 h2
  exact ⟨hn, e⟩
/-- What is sorted: a list of numbers in memory of its own, from the block's begin on. -/
def AtG (w : World) (base g n c : Nat) (xs : List Int) : Prop := Own w base 2 (.slice (some ⟨g, 0, none⟩) n c) xs
def Sorts (w : World) (base g n c : Nat) (ys : List Int) (e : Ending) (w' : World) : Prop := e = .returned (.tuple #[]) ∧ AtG w' base g n c ys ∧ Chg (fun q => q = g) w w'
theorem AtG.fr {w w' : World} {base g n c : Nat} {xs : List Int} (h : AtG w base g n c xs) (hC : Chg (fun _ => False) w w') : AtG w' base g n c xs := Own.fr h hC
theorem AtG.len {w : World} {base g n c : Nat} {xs : List Int} (h : AtG w base g n c xs) : n = xs.length := by
  obtain ⟨ao, cc, e⟩ := own_name h
  injection e
theorem AtG.cell {w : World} {base g n c : Nat} {xs A B : List Int} {u : Int} {j : Nat} (h : AtG w base g n c xs) (e : xs = A ++ u :: B) (hj : j = A.length) : w.cell? ⟨g, j, none⟩ = some (.int .i64 u) ∧ w.frozen? ⟨g, j, none⟩ = false ∧ j < n := by
  obtain ⟨hn, e2⟩ := get_at' e hj
  have := own_cell h hn
  rw [e2] at this
  exact ⟨this.1, this.2, by rw [h.len]; exact hn⟩
theorem AtG.lt {w : World} {base g n c : Nat} {xs : List Int} (h : AtG w base g n c xs) : base ≤ g ∧ g < w.heap.size := Own.lt h g rfl
/-- Two elements exchanged. -/
theorem AtG.exch {w : World} {base g n c : Nat} {xs A M B : List Int} {u v : Int} {i j : Nat} (h : AtG w base g n c xs) (e : xs = A ++ u :: (M ++ v :: B)) (hi : i = A.length) (hj : j = A.length + 1 + M.length) :
    AtG ((w.setCell ⟨g, i, none⟩ (.int .i64 v)).setCell ⟨g, j, none⟩ (.int .i64 u)) base g n c (A ++ v :: (M ++ u :: B)) ∧
    AtG ((w.setCell ⟨g, j, none⟩ (.int .i64 u)).setCell ⟨g, i, none⟩ (.int .i64 v)) base g n c (A ++ v :: (M ++ u :: B)) ∧
    Chg (fun q => q = g) w ((w.setCell ⟨g, i, none⟩ (.int .i64 v)).setCell ⟨g, j, none⟩ (.int .i64 u)) ∧ Chg (fun q => q = g) w ((w.setCell ⟨g, j, none⟩ (.int .i64 u)).setCell ⟨g, i, none⟩ (.int .i64 v)) := by
  subst e
  have e1 : ((A ++ u :: (M ++ v :: B)).set i v).set j u = A ++ v :: (M ++ u :: B) := by
    rw [set_at hi, show A ++ v :: (M ++ v :: B) = (A ++ v :: M) ++ v :: B by simp, set_at (by simp; omega)]
    simp
  have e2 : ((A ++ u :: (M ++ v :: B)).set j u).set i v = A ++ v :: (M ++ u :: B) := by
    rw [show A ++ u :: (M ++ v :: B) = (A ++ u :: M) ++ v :: B by simp, set_at (by simp; omega), show (A ++ u :: M) ++ u :: B = A ++ u :: (M ++ u :: B) by simp, set_at hi]
  have h1 := own_put (own_put h i v) j u
  have h2 := own_put (own_put h j u) i v
  rw [e1] at h1
  rw [e2] at h2
  exact ⟨h1, h2, (chg_at w g i _).trans (chg_at _ g j _) (fun _ _ h => h) (fun _ _ h => h), (chg_at w g j _).trans (chg_at _ g i _) (fun _ _ h => h) (fun _ _ h => h)⟩
/-- Two ranges, of which the first j elements are exchanged. -/
def swp (p x m y q : List Int) (j : Nat) : List Int := p ++ (y.take j ++ (x.drop j ++ (m ++ (x.take j ++ (y.drop j ++ q)))))
theorem swp_at {p x m y q : List Int} {j : Nat} (hx : j < x.length) (hy : j < y.length) :
    swp p x m y q j = (p ++ y.take j) ++ x[j] :: ((x.drop (j + 1) ++ (m ++ x.take j)) ++ y[j] :: (y.drop (j + 1) ++ q)) ∧
    swp p x m y q (j + 1) = (p ++ y.take j) ++ y[j] :: ((x.drop (j + 1) ++ (m ++ x.take j)) ++ x[j] :: (y.drop (j + 1) ++ q)) := by
  constructor
  · have h1 := List.drop_eq_getElem_cons hx
    have h2 := List.drop_eq_getElem_cons hy
    unfold swp
    rw [h1, h2]
    simp only [List.append_assoc, List.cons_append]
  · have h1 := List.take_succ_eq_append_getElem hx
    have h2 := List.take_succ_eq_append_getElem hy
    unfold swp
    rw [h1, h2]
    simp only [List.append_assoc, List.cons_append, List.nil_append]
set_option maxRecDepth 100000 in
set_option maxHeartbeats 1000000 in
theorem swapR_any (base g n c : Nat) (p x m y q : List Int) (a b k : Nat) (fv : Value) (w : World) (h : AtG w base g n c (p ++ (x ++ (m ++ (y ++ q))))) (ha : a = p.length) (hb : b = p.length + k + m.length) (hx : x.length = k) (hy : y.length = k) (hn : n ≤ 1000000) :
    Calls Try.prog 104 #[.slice (some ⟨g, 0, none⟩) n c, .int .i64 a, .int .i64 b, .int .i64 k, fv] w (Sorts w base g n c (p ++ (y ++ (m ++ (x ++ q))))) := by
  have hlen := h.len
  simp only [List.length_append] at hlen
  have h0 : AtG w base g n c (swp p x m y q 0) := by simpa [swp] using h
  have HE := Lib.hid (show swp p x m y q k = p ++ (y ++ (m ++ (x ++ q))) by unfold swp; rw [List.take_of_length_le (by omega), List.take_of_length_le (by omega), List.drop_eq_nil_of_le (by omega), List.drop_eq_nil_of_le (by omega)]; simp)
  have HX := Lib.hid (And.intro (And.intro hx hy) (And.intro (And.intro ha hb) hlen))
  clear h ha hb hx hy hlen
  go_enter Try.func104, Try.ntmps104
  go_wp2
  go_loopw [10] (fun i wr => ∃ j : Nat, j ≤ k ∧ i = .int .i64 j ∧ AtG wr base g n c (swp p x m y q j) ∧ Chg (fun q => q = g) w wr) (fun i _ => k - (intOf i).toNat)
  case atStart => exact ⟨0, Nat.zero_le _, rfl, h0, Chg.refl _ _⟩
  case round =>
    obtain ⟨j, hj, rfl, hG, hC⟩ := hrel
    clear h0
    by_cases hlt : j < k
    · obtain ⟨⟨hx, hy⟩, ⟨ha, hb⟩, hlen⟩ := HX.out
      obtain ⟨e1, e2⟩ := swp_at (p := p) (m := m) (q := q) (show j < x.length by omega) (show j < y.length by omega)
      have hpa : a + j = (p ++ y.take j).length := by rw [List.length_append, List.length_take, Nat.min_eq_left (by omega)]; omega
      have hpb : b + j = (p ++ y.take j).length + 1 + (x.drop (j + 1) ++ (m ++ x.take j)).length := by
        simp only [List.length_append, List.length_take, List.length_drop]
        rw [Nat.min_eq_left (by omega), Nat.min_eq_left (by omega)]; omega
      obtain ⟨c1, f1, l1⟩ := hG.cell e1 hpa
      have e3 : swp p x m y q j = ((p ++ y.take j) ++ x[j] :: (x.drop (j + 1) ++ (m ++ x.take j))) ++ y[j] :: (y.drop (j + 1) ++ q) := by
        rw [e1]; simp only [List.append_assoc, List.cons_append]
      obtain ⟨c2, f2, l2⟩ := hG.cell (j := b + j) e3 (by rw [hpb, List.length_append (bs := _ :: _), List.length_cons]; omega)
      have hex := hG.exch e1 hpa hpb
      rw [← e2] at hex
      have HEX := Lib.hid hex
      generalize x[j] = u at *
      generalize y[j] = v at *
      have HC := Lib.hid hC
      have HL := Lib.hid hlt
      have hlt' : (j : Int) < (k : Int) := by omega
      have hkw : IntKind.i64.wrap ((j : Int) + 1) = (j : Int) + 1 := IntWalk.i64_in _ (by omega)
      have k1 : IntKind.i64.wrap ((a : Int) + (j : Int)) = ((a + j : Nat) : Int) := IntWalk.i64_in _ (by omega)
      have k2 : IntKind.i64.wrap ((b : Int) + (j : Int)) = ((b + j : Nat) : Int) := IntWalk.i64_in _ (by omega)
      have g1 : (0 : Int) ≤ ((a + j : Nat) : Int) := by omega
      have g2 : (0 : Int) ≤ ((b + j : Nat) : Int) := by omega
      have g3 : ((a + j : Nat) : Int) < (n : Int) := by omega
      have g4 : ((b + j : Nat) : Int) < (n : Int) := by omega
      have hne : ¬ a = b := by omega
      clear hG hex e1 e2 e3 hpa hpb hx hy ha hb hlen hC hlt hj l1 l2
      go_wp2
      go_region
      all_goals
        go_wp2
        go_roundw
        case rel => exact ⟨j + 1, HL.out, by go_num, HEX.out.1.fr ((Chg.refl _ _).drew), (HC.out.trans HEX.out.2.2.1 (fun _ _ h => h) (fun _ _ h => h)).drew⟩
        case measure => exact fit_meas j k HL.out
    · obtain rfl : j = k := by omega
      have hd : ¬ (j : Int) < (j : Int) := by omega
      have HC := Lib.hid hC
      rw [HE.out] at hG
      clear hC hlt hj
      go_wp2
      go_end0
      exact ⟨rfl, hG, HC.out⟩
end Go.Proofs.Ytnjnajbdpaaikaa
