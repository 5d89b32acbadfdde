/- ScalarWhole's walk. -/
import Derived.Test.YtachmmicdjmjkaaScV
namespace Go.Proofs.Ytachmmicdjmjkaa
open Go.RowKit

set_option maxRecDepth 100000 in
set_option maxHeartbeats 4000000 in
theorem whole_zero (x s d p q e f g : Int) (xh xl : Int) (vy v1 v2 v3 ny : Value) (W : World)
    (t1 : ∀ w, Calls Try.prog 12 #[.int .i64 1, .int .i64 x, .int .i64 0] w (GaveP w s e)) (t2 : ∀ w, Calls Try.prog 12 #[.int .i64 2, .int .i64 x, .int .i64 0] w (GaveP w d f)) (t3 : ∀ w, Calls Try.prog 12 #[.int .i64 3, .int .i64 x, .int .i64 0] w (GaveP w p g))
    (ox : ∀ w, Calls Try.prog 14 #[.int .i64 x] w (GaveV w (.agg #[.int .u64 xh, .int .u64 xl]))) (oy : ∀ w, Calls Try.prog 14 #[.int .i64 0] w (GaveV w vy))
    (p1 : ∀ w, Calls Try.prog 15 #[.agg #[.int .u64 xh, .int .u64 xl], vy] w (GaveV w v1)) (s1 : ∀ w, Calls Try.prog 13 #[.int .i64 s, .int .i64 e, v1] w (True_ w))
    (m1 : ∀ w, Calls Try.prog 16 #[vy] w (GaveV w ny)) (p2 : ∀ w, Calls Try.prog 15 #[.agg #[.int .u64 xh, .int .u64 xl], ny] w (GaveV w v2)) (s2 : ∀ w, Calls Try.prog 13 #[.int .i64 d, .int .i64 f, v2] w (True_ w))
    (pr : ∀ w, Calls Try.prog 17 #[.int .i64 x, .int .i64 0] w (GaveV w v3)) (s3 : ∀ w, Calls Try.prog 13 #[.int .i64 p, .int .i64 g, v3] w (True_ w))
    (t4 : ∀ w, Calls Try.prog 12 #[.int .i64 4, .int .i64 x, .int .i64 0] w (GaveP w q 8)) (t5 : ∀ w, Calls Try.prog 12 #[.int .i64 5, .int .i64 0, .int .i64 x] w (GaveP w x 0))  : Calls Try.prog 6 #[.int .i64 x, .int .i64 0] W (True_ W) := by
  have ha := alive_any
  go_enter Try.func6, Try.ntmps6
  go_wp2_with fail
  refine (ha _).mono ?_
  rintro e w1 ⟨rfl, hC1⟩
  go_wp2_with fail
  refine (t1 _).mono ?_
  rintro e w2 ⟨rfl, hC2⟩
  go_wp2_with fail
  refine (t2 _).mono ?_
  rintro e w3 ⟨rfl, hC3⟩
  go_wp2_with fail
  refine (t3 _).mono ?_
  rintro e w4 ⟨rfl, hC4⟩
  replace hC4 := ((hC1.tr hC2).tr hC3).tr hC4
  go_wp2_with fail
  refine (ox _).mono ?_
  rintro e w5 ⟨rfl, hC5⟩
  go_wp2_with fail
  refine (oy _).mono ?_
  rintro e w6 ⟨rfl, hC6⟩
  go_wp2_with fail
  refine (p1 _).mono ?_
  rintro e w7 ⟨rfl, hC7⟩
  go_wp2_with fail
  refine (s1 _).mono ?_
  rintro e w8 ⟨rfl, hC8⟩
  replace hC8 := (((hC4.tr hC5).tr hC6).tr hC7).tr hC8
  go_wp2_with fail
  refine (ox _).mono ?_
  rintro e w9 ⟨rfl, hC9⟩
  go_wp2_with fail
  refine (oy _).mono ?_
  rintro e w10 ⟨rfl, hC10⟩
  go_wp2_with fail
  refine (m1 _).mono ?_
  rintro e w11 ⟨rfl, hC11⟩
  go_wp2_with fail
  refine (p2 _).mono ?_
  rintro e w12 ⟨rfl, hC12⟩
  go_wp2_with fail
  refine (s2 _).mono ?_
  rintro e w13 ⟨rfl, hC13⟩
  replace hC13 := ((((hC8.tr hC9).tr hC10).tr hC11).tr hC12).tr hC13
  go_wp2_with fail
  refine (pr _).mono ?_
  rintro e w14 ⟨rfl, hC14⟩
  go_wp2_with fail
  refine (s3 _).mono ?_
  rintro e w15 ⟨rfl, hC15⟩
  go_wp2_with fail
  refine (t4 _).mono ?_
  rintro e w16 ⟨rfl, hC16⟩
  go_wp2_with fail
  refine (t5 _).mono ?_
  rintro e w17 ⟨rfl, hC17⟩
  replace hC17 := (((hC13.tr hC14).tr hC15).tr hC16).tr hC17
  clear hC1 hC2 hC3 hC4 hC5 hC6 hC7 hC8 hC9 hC10 hC11 hC12 hC13 hC14 hC15 hC16
  go_wp2
  go_ret
  exact ⟨rfl, hC17⟩
set_option maxRecDepth 100000 in
set_option maxHeartbeats 4000000 in
theorem whole_over (s d p q e f g : Int) (xh xl : Int) (vy v1 v2 v3 ny : Value) (W : World)
    (t1 : ∀ w, Calls Try.prog 12 #[.int .i64 1, .int .i64 (-9223372036854775808), .int .i64 (-1)] w (GaveP w s e)) (t2 : ∀ w, Calls Try.prog 12 #[.int .i64 2, .int .i64 (-9223372036854775808), .int .i64 (-1)] w (GaveP w d f)) (t3 : ∀ w, Calls Try.prog 12 #[.int .i64 3, .int .i64 (-9223372036854775808), .int .i64 (-1)] w (GaveP w p g))
    (ox : ∀ w, Calls Try.prog 14 #[.int .i64 (-9223372036854775808)] w (GaveV w (.agg #[.int .u64 xh, .int .u64 xl]))) (oy : ∀ w, Calls Try.prog 14 #[.int .i64 (-1)] w (GaveV w vy))
    (p1 : ∀ w, Calls Try.prog 15 #[.agg #[.int .u64 xh, .int .u64 xl], vy] w (GaveV w v1)) (s1 : ∀ w, Calls Try.prog 13 #[.int .i64 s, .int .i64 e, v1] w (True_ w))
    (m1 : ∀ w, Calls Try.prog 16 #[vy] w (GaveV w ny)) (p2 : ∀ w, Calls Try.prog 15 #[.agg #[.int .u64 xh, .int .u64 xl], ny] w (GaveV w v2)) (s2 : ∀ w, Calls Try.prog 13 #[.int .i64 d, .int .i64 f, v2] w (True_ w))
    (pr : ∀ w, Calls Try.prog 17 #[.int .i64 (-9223372036854775808), .int .i64 (-1)] w (GaveV w v3)) (s3 : ∀ w, Calls Try.prog 13 #[.int .i64 p, .int .i64 g, v3] w (True_ w))
    (t4 : ∀ w, Calls Try.prog 12 #[.int .i64 4, .int .i64 (-9223372036854775808), .int .i64 (-1)] w (GaveP w q 7)) (t5 : ∀ w, Calls Try.prog 12 #[.int .i64 5, .int .i64 (-1), .int .i64 (-9223372036854775808)] w (GaveP w 0 0))  : Calls Try.prog 6 #[.int .i64 (-9223372036854775808), .int .i64 (-1)] W (True_ W) := by
  have ha := alive_any
  go_enter Try.func6, Try.ntmps6
  go_wp2_with fail
  refine (ha _).mono ?_
  rintro e w1 ⟨rfl, hC1⟩
  go_wp2_with fail
  refine (t1 _).mono ?_
  rintro e w2 ⟨rfl, hC2⟩
  go_wp2_with fail
  refine (t2 _).mono ?_
  rintro e w3 ⟨rfl, hC3⟩
  go_wp2_with fail
  refine (t3 _).mono ?_
  rintro e w4 ⟨rfl, hC4⟩
  replace hC4 := ((hC1.tr hC2).tr hC3).tr hC4
  go_wp2_with fail
  refine (ox _).mono ?_
  rintro e w5 ⟨rfl, hC5⟩
  go_wp2_with fail
  refine (oy _).mono ?_
  rintro e w6 ⟨rfl, hC6⟩
  go_wp2_with fail
  refine (p1 _).mono ?_
  rintro e w7 ⟨rfl, hC7⟩
  go_wp2_with fail
  refine (s1 _).mono ?_
  rintro e w8 ⟨rfl, hC8⟩
  replace hC8 := (((hC4.tr hC5).tr hC6).tr hC7).tr hC8
  go_wp2_with fail
  refine (ox _).mono ?_
  rintro e w9 ⟨rfl, hC9⟩
  go_wp2_with fail
  refine (oy _).mono ?_
  rintro e w10 ⟨rfl, hC10⟩
  go_wp2_with fail
  refine (m1 _).mono ?_
  rintro e w11 ⟨rfl, hC11⟩
  go_wp2_with fail
  refine (p2 _).mono ?_
  rintro e w12 ⟨rfl, hC12⟩
  go_wp2_with fail
  refine (s2 _).mono ?_
  rintro e w13 ⟨rfl, hC13⟩
  replace hC13 := ((((hC8.tr hC9).tr hC10).tr hC11).tr hC12).tr hC13
  go_wp2_with fail
  refine (pr _).mono ?_
  rintro e w14 ⟨rfl, hC14⟩
  go_wp2_with fail
  refine (s3 _).mono ?_
  rintro e w15 ⟨rfl, hC15⟩
  go_wp2_with fail
  refine (t4 _).mono ?_
  rintro e w16 ⟨rfl, hC16⟩
  go_wp2_with fail
  refine (t5 _).mono ?_
  rintro e w17 ⟨rfl, hC17⟩
  replace hC17 := (((hC13.tr hC14).tr hC15).tr hC16).tr hC17
  clear hC1 hC2 hC3 hC4 hC5 hC6 hC7 hC8 hC9 hC10 hC11 hC12 hC13 hC14 hC15 hC16
  go_wp2
  go_ret
  exact ⟨rfl, hC17⟩
set_option maxRecDepth 100000 in
set_option maxHeartbeats 4000000 in
theorem whole_pos (x y s d p q r e f g : Int) (xh xl : Int) (vy v1 v2 v3 ny : Value) (W : World)
    (t1 : ∀ w, Calls Try.prog 12 #[.int .i64 1, .int .i64 x, .int .i64 y] w (GaveP w s e)) (t2 : ∀ w, Calls Try.prog 12 #[.int .i64 2, .int .i64 x, .int .i64 y] w (GaveP w d f)) (t3 : ∀ w, Calls Try.prog 12 #[.int .i64 3, .int .i64 x, .int .i64 y] w (GaveP w p g))
    (ox : ∀ w, Calls Try.prog 14 #[.int .i64 x] w (GaveV w (.agg #[.int .u64 xh, .int .u64 xl]))) (oy : ∀ w, Calls Try.prog 14 #[.int .i64 y] w (GaveV w vy))
    (p1 : ∀ w, Calls Try.prog 15 #[.agg #[.int .u64 xh, .int .u64 xl], vy] w (GaveV w v1)) (s1 : ∀ w, Calls Try.prog 13 #[.int .i64 s, .int .i64 e, v1] w (True_ w))
    (m1 : ∀ w, Calls Try.prog 16 #[vy] w (GaveV w ny)) (p2 : ∀ w, Calls Try.prog 15 #[.agg #[.int .u64 xh, .int .u64 xl], ny] w (GaveV w v2)) (s2 : ∀ w, Calls Try.prog 13 #[.int .i64 d, .int .i64 f, v2] w (True_ w))
    (pr : ∀ w, Calls Try.prog 17 #[.int .i64 x, .int .i64 y] w (GaveV w v3)) (s3 : ∀ w, Calls Try.prog 13 #[.int .i64 p, .int .i64 g, v3] w (True_ w))
    (t4 : ∀ w, Calls Try.prog 12 #[.int .i64 4, .int .i64 x, .int .i64 y] w (GaveP w q 0)) (t5 : ∀ w, Calls Try.prog 12 #[.int .i64 5, .int .i64 y, .int .i64 x] w (GaveP w r 0)) (xb : Bool) (v4 v5 : Value) (y0 : (y == 0) = false) (xm : (x == -9223372036854775808) = xb) (ym : (y == -1) = false) (b1 : decide (0 < y) = true) (b2 : decide (0 ≤ r) = true) (b3 : decide (r < y) = true) (pq : ∀ w, Calls Try.prog 17 #[.int .i64 q, .int .i64 y] w (GaveV w v4)) (orr : ∀ w, Calls Try.prog 14 #[.int .i64 r] w (GaveV w v5)) (p3 : ∀ w, Calls Try.prog 15 #[v4, v5] w (GaveV w (.agg #[.int .u64 xh, .int .u64 xl]))) : Calls Try.prog 6 #[.int .i64 x, .int .i64 y] W (True_ W) := by
  have ha := alive_any
  go_enter Try.func6, Try.ntmps6
  go_wp2_with fail
  refine (ha _).mono ?_
  rintro e w1 ⟨rfl, hC1⟩
  go_wp2_with fail
  refine (t1 _).mono ?_
  rintro e w2 ⟨rfl, hC2⟩
  go_wp2_with fail
  refine (t2 _).mono ?_
  rintro e w3 ⟨rfl, hC3⟩
  go_wp2_with fail
  refine (t3 _).mono ?_
  rintro e w4 ⟨rfl, hC4⟩
  replace hC4 := ((hC1.tr hC2).tr hC3).tr hC4
  go_wp2_with fail
  refine (ox _).mono ?_
  rintro e w5 ⟨rfl, hC5⟩
  go_wp2_with fail
  refine (oy _).mono ?_
  rintro e w6 ⟨rfl, hC6⟩
  go_wp2_with fail
  refine (p1 _).mono ?_
  rintro e w7 ⟨rfl, hC7⟩
  go_wp2_with fail
  refine (s1 _).mono ?_
  rintro e w8 ⟨rfl, hC8⟩
  replace hC8 := (((hC4.tr hC5).tr hC6).tr hC7).tr hC8
  go_wp2_with fail
  refine (ox _).mono ?_
  rintro e w9 ⟨rfl, hC9⟩
  go_wp2_with fail
  refine (oy _).mono ?_
  rintro e w10 ⟨rfl, hC10⟩
  go_wp2_with fail
  refine (m1 _).mono ?_
  rintro e w11 ⟨rfl, hC11⟩
  go_wp2_with fail
  refine (p2 _).mono ?_
  rintro e w12 ⟨rfl, hC12⟩
  go_wp2_with fail
  refine (s2 _).mono ?_
  rintro e w13 ⟨rfl, hC13⟩
  replace hC13 := ((((hC8.tr hC9).tr hC10).tr hC11).tr hC12).tr hC13
  go_wp2_with fail
  refine (pr _).mono ?_
  rintro e w14 ⟨rfl, hC14⟩
  go_wp2_with fail
  refine (s3 _).mono ?_
  rintro e w15 ⟨rfl, hC15⟩
  go_wp2_with fail
  refine (t4 _).mono ?_
  rintro e w16 ⟨rfl, hC16⟩
  go_wp2_with fail
  refine (t5 _).mono ?_
  rintro e w17 ⟨rfl, hC17⟩
  replace hC17 := (((hC13.tr hC14).tr hC15).tr hC16).tr hC17
  clear hC1 hC2 hC3 hC4 hC5 hC6 hC7 hC8 hC9 hC10 hC11 hC12 hC13 hC14 hC15 hC16
  cases xb
  all_goals
    go_wp2_with fail
    refine (pq _).mono ?_
    rintro e w18 ⟨rfl, hC18⟩
    go_wp2_with fail
    refine (orr _).mono ?_
    rintro e w19 ⟨rfl, hC19⟩
    go_wp2_with fail
    refine (p3 _).mono ?_
    rintro e w20 ⟨rfl, hC20⟩
    go_wp2_with fail
    refine (ox _).mono ?_
    rintro e w21 ⟨rfl, hC21⟩
    go_wp2
    go_ret
    exact ⟨rfl, (((hC17.tr hC18).tr hC19).tr hC20).tr hC21⟩
set_option maxRecDepth 100000 in
set_option maxHeartbeats 4000000 in
theorem whole_neg (x y s d p q r e f g : Int) (xh xl : Int) (vy v1 v2 v3 ny : Value) (W : World)
    (t1 : ∀ w, Calls Try.prog 12 #[.int .i64 1, .int .i64 x, .int .i64 y] w (GaveP w s e)) (t2 : ∀ w, Calls Try.prog 12 #[.int .i64 2, .int .i64 x, .int .i64 y] w (GaveP w d f)) (t3 : ∀ w, Calls Try.prog 12 #[.int .i64 3, .int .i64 x, .int .i64 y] w (GaveP w p g))
    (ox : ∀ w, Calls Try.prog 14 #[.int .i64 x] w (GaveV w (.agg #[.int .u64 xh, .int .u64 xl]))) (oy : ∀ w, Calls Try.prog 14 #[.int .i64 y] w (GaveV w vy))
    (p1 : ∀ w, Calls Try.prog 15 #[.agg #[.int .u64 xh, .int .u64 xl], vy] w (GaveV w v1)) (s1 : ∀ w, Calls Try.prog 13 #[.int .i64 s, .int .i64 e, v1] w (True_ w))
    (m1 : ∀ w, Calls Try.prog 16 #[vy] w (GaveV w ny)) (p2 : ∀ w, Calls Try.prog 15 #[.agg #[.int .u64 xh, .int .u64 xl], ny] w (GaveV w v2)) (s2 : ∀ w, Calls Try.prog 13 #[.int .i64 d, .int .i64 f, v2] w (True_ w))
    (pr : ∀ w, Calls Try.prog 17 #[.int .i64 x, .int .i64 y] w (GaveV w v3)) (s3 : ∀ w, Calls Try.prog 13 #[.int .i64 p, .int .i64 g, v3] w (True_ w))
    (t4 : ∀ w, Calls Try.prog 12 #[.int .i64 4, .int .i64 x, .int .i64 y] w (GaveP w q 0)) (t5 : ∀ w, Calls Try.prog 12 #[.int .i64 5, .int .i64 y, .int .i64 x] w (GaveP w r 0)) (xb yb : Bool) (v4 v5 : Value) (y0 : (y == 0) = false) (xm : (x == -9223372036854775808) = xb) (ym : (y == -1) = yb) (hxy : (xb && yb) = false) (b0 : decide (0 < y) = false) (b1 : decide (y < 0) = true) (b2 : decide (r ≤ 0) = true) (b3 : decide (y < r) = true) (pq : ∀ w, Calls Try.prog 17 #[.int .i64 q, .int .i64 y] w (GaveV w v4)) (orr : ∀ w, Calls Try.prog 14 #[.int .i64 r] w (GaveV w v5)) (p3 : ∀ w, Calls Try.prog 15 #[v4, v5] w (GaveV w (.agg #[.int .u64 xh, .int .u64 xl]))) : Calls Try.prog 6 #[.int .i64 x, .int .i64 y] W (True_ W) := by
  have ha := alive_any
  go_enter Try.func6, Try.ntmps6
  go_wp2_with fail
  refine (ha _).mono ?_
  rintro e w1 ⟨rfl, hC1⟩
  go_wp2_with fail
  refine (t1 _).mono ?_
  rintro e w2 ⟨rfl, hC2⟩
  go_wp2_with fail
  refine (t2 _).mono ?_
  rintro e w3 ⟨rfl, hC3⟩
  go_wp2_with fail
  refine (t3 _).mono ?_
  rintro e w4 ⟨rfl, hC4⟩
  replace hC4 := ((hC1.tr hC2).tr hC3).tr hC4
  go_wp2_with fail
  refine (ox _).mono ?_
  rintro e w5 ⟨rfl, hC5⟩
  go_wp2_with fail
  refine (oy _).mono ?_
  rintro e w6 ⟨rfl, hC6⟩
  go_wp2_with fail
  refine (p1 _).mono ?_
  rintro e w7 ⟨rfl, hC7⟩
  go_wp2_with fail
  refine (s1 _).mono ?_
  rintro e w8 ⟨rfl, hC8⟩
  replace hC8 := (((hC4.tr hC5).tr hC6).tr hC7).tr hC8
  go_wp2_with fail
  refine (ox _).mono ?_
  rintro e w9 ⟨rfl, hC9⟩
  go_wp2_with fail
  refine (oy _).mono ?_
  rintro e w10 ⟨rfl, hC10⟩
  go_wp2_with fail
  refine (m1 _).mono ?_
  rintro e w11 ⟨rfl, hC11⟩
  go_wp2_with fail
  refine (p2 _).mono ?_
  rintro e w12 ⟨rfl, hC12⟩
  go_wp2_with fail
  refine (s2 _).mono ?_
  rintro e w13 ⟨rfl, hC13⟩
  replace hC13 := ((((hC8.tr hC9).tr hC10).tr hC11).tr hC12).tr hC13
  go_wp2_with fail
  refine (pr _).mono ?_
  rintro e w14 ⟨rfl, hC14⟩
  go_wp2_with fail
  refine (s3 _).mono ?_
  rintro e w15 ⟨rfl, hC15⟩
  go_wp2_with fail
  refine (t4 _).mono ?_
  rintro e w16 ⟨rfl, hC16⟩
  go_wp2_with fail
  refine (t5 _).mono ?_
  rintro e w17 ⟨rfl, hC17⟩
  replace hC17 := (((hC13.tr hC14).tr hC15).tr hC16).tr hC17
  clear hC1 hC2 hC3 hC4 hC5 hC6 hC7 hC8 hC9 hC10 hC11 hC12 hC13 hC14 hC15 hC16
  cases xb <;> cases yb
  case true.true => cases hxy
  all_goals
    go_wp2_with fail
    refine (pq _).mono ?_
    rintro e w18 ⟨rfl, hC18⟩
    go_wp2_with fail
    refine (orr _).mono ?_
    rintro e w19 ⟨rfl, hC19⟩
    go_wp2_with fail
    refine (p3 _).mono ?_
    rintro e w20 ⟨rfl, hC20⟩
    go_wp2_with fail
    refine (ox _).mono ?_
    rintro e w21 ⟨rfl, hC21⟩
    go_wp2
    go_ret
    exact ⟨rfl, (((hC17.tr hC18).tr hC19).tr hC20).tr hC21⟩
theorem scalarWhole_walk (x y : Int) (W : World) (hx : (Lit.int .i64 x).wf = true) (hy : (Lit.int .i64 y).wf = true) : Calls Try.prog 6 #[.int .i64 x, .int .i64 y] W (True_ W) := by
  have ix : In x := wf_i64' hx
  have iy : In y := wf_i64' hy
  clear hx hy
  have bx := ix
  have by_ := iy
  unfold In at bx by_
  have t1 := fun w => two_1 x y _ _ w (add_any x y ix iy)
  have t2 := fun w => two_2 x y _ _ w (sub_any x y ix iy)
  have t3 := fun w => two_3 x y _ _ w (mul_any x y ix iy)
  have t4 := fun w => two_4 x y _ _ w (div_any x y ix iy)
  have t5 := fun w => two_5 y x _ _ w (rem_any y x iy)
  have ox := of_wv x ix
  have oy := of_wv y iy
  have p1 := plus_wv x y
  have s1 := so_wv (x + y) (by omega) (by omega)
  have m1 := minus_wv y
  have p2 := plus_wv x (-y)
  rw [show x + -y = x - y by omega] at p2
  have s2 := so_wv (x - y) (by omega) (by omega)
  have pr := prod_wv x y ix iy
  have hz : (x * y).natAbs ≤ 9223372036854775808 * 9223372036854775808 := by rw [Int.natAbs_mul]; exact Nat.mul_le_mul (by omega) (by omega)
  have s3 := so_wv (x * y) (by omega) (by omega)
  clear hz
  by_cases y0 : y = 0
  · subst y0
    exact whole_zero x _ _ _ _ _ _ _ _ _ _ _ _ _ _ W t1 t2 t3 ox oy p1 s1 m1 p2 s2 pr s3 t4 t5
  by_cases hov : x = -9223372036854775808 ∧ y = -1
  · obtain ⟨rfl, rfl⟩ := hov
    rw [show divE (-9223372036854775808) (-1) = 7 by decide +kernel] at t4
    rw [show remN (-1) (-9223372036854775808) = 0 by decide +kernel] at t5
    exact whole_over _ _ _ _ _ _ _ _ _ _ _ _ _ _ W t1 t2 t3 ox oy p1 s1 m1 p2 s2 pr s3 t4 t5
  have hq : In (x.fdiv y) := by
    have h := Int.mul_fdiv_add_fmod x y
    have hw := fdiv_way x y y0
    have h1 := tdiv_in x y ix y0 hov
    unfold In at h1 ⊢
    by_cases hc : ((x.tmod y != 0) && (decide (x < 0) != decide (y < 0))) = true
    · rw [if_pos hc] at hw
      have h4 : ¬ x.tmod y = 0 := by
        intro e
        rw [e] at hc
        simp at hc
      have h5 : ¬ y = 1 := fun e => h4 (by rw [e, Int.tmod_one])
      have h6 : ¬ y = -1 := fun e => h4 (by rw [e, Int.tmod_neg, Int.tmod_one])
      have h3 := Int.natAbs_tdiv x y
      have h7 : x.natAbs.div y.natAbs ≤ x.natAbs / 2 := Nat.div_le_div_left (by omega) (by decide)
      omega
    · rw [if_neg hc] at hw
      omega
  have hr : In (x.fmod y) := fmod_in y x iy y0
  rw [show divN x y = x.fdiv y by unfold divN; rw [if_neg y0, fitN_in hq], show divE x y = 0 by unfold divE; rw [if_neg y0, fitE_in hq]] at t4
  rw [show remN y x = x.fmod y by unfold remN; rw [if_neg y0]] at t5
  have pq := prod_wv (x.fdiv y) y hq iy
  have orr := of_wv (x.fmod y) hr
  have p3 := plus_wv (x.fdiv y * y) (x.fmod y)
  rw [Int.fdiv_mul_add_fmod] at p3
  have b0 : (y == 0) = false := beq_eq_false_iff_ne.2 y0
  by_cases hp : 0 < y
  · have f1 := Int.fmod_nonneg_of_pos x hp
    have f2 := Int.fmod_lt_of_pos x hp
    exact whole_pos x y _ _ _ _ _ _ _ _ _ _ _ _ _ _ _ W t1 t2 t3 ox oy p1 s1 m1 p2 s2 pr s3 t4 t5 _ _ _ b0 rfl (beq_eq_false_iff_ne.2 (by omega)) (decide_eq_true hp) (decide_eq_true f1) (decide_eq_true f2) pq orr p3
  · have hn : 0 < -y := by omega
    have f1 := Int.fmod_nonneg_of_pos (-x) hn
    have f2 := Int.fmod_lt_of_pos (-x) hn
    rw [Int.neg_fmod_neg] at f1 f2
    have hxy : ((x == -9223372036854775808) && (y == -1)) = false := by
      cases hb : (x == -9223372036854775808) && (y == -1) with
      | false => rfl
      | true =>
        simp at hb
        exact absurd hb hov
    exact whole_neg x y _ _ _ _ _ _ _ _ _ _ _ _ _ _ _ W t1 t2 t3 ox oy p1 s1 m1 p2 s2 pr s3 t4 t5 _ _ _ _ b0 rfl rfl hxy (decide_eq_false hp) (decide_eq_true (by omega)) (decide_eq_true (by omega)) (decide_eq_true (by omega)) pq orr p3
end Go.Proofs.Ytachmmicdjmjkaa
