/- Walks, written by my program walk.py out of the specification gov1.py: each theorem says what one function returns and that it leaves memory as it was. -/
import Derived.Test.YthjgnnfonofgkaaPOver
import Derived.Test.YthjgnnfonofgkaaWghex
import Derived.Test.YthjgnnfonofgkaaWgmS
import Derived.Test.YthjgnnfonofgkaaWgnS
import Derived.Test.YthjgnnfonofgkaaWgmI
import Derived.Test.YthjgnnfonofgkaaWgnI
import Derived.Test.YthjgnnfonofgkaaWgmB
import Derived.Test.YthjgnnfonofgkaaWgnB
import Derived.Test.YthjgnnfonofgkaaFKaf
import Derived.Test.YthjgnnfonofgkaaProg
import Derived.Tactics2
import Derived.Test.YthjgnnfonofgkaaFKu
namespace Go.Proofs.Ythjgnnfonofgkaa
open Go Go.RowKit Go.FK
set_option linter.unusedVariables false
set_option linter.unusedSimpArgs false

theorem el22 : Elem Try.prog 22 29 2 8 := ⟨Try.underlying22, by kernel_rfl, rfl⟩
theorem el45 : Elem Try.prog 45 3 1 8 := ⟨Try.underlying45, by kernel_rfl, rfl⟩
theorem el133 : Elem Try.prog 133 41 1 8 := ⟨Try.underlying133, by kernel_rfl, rfl⟩
set_option maxHeartbeats 4000000 in
set_option maxRecDepth 100000 in
theorem c_same_I (b_a : Nat) (v_xs : Value) (xs : List (Int × Int × Int)) (b_b : Nat) (v_ys : Value) (ys : List (Int × Int × Int)) (w : World) (o_a : w.heap[b_a]? = some (.cells [v_xs, (.bool true)].toArray 109 (0, 0))) (p_xs : Rd w encSpanI v_xs xs) (o_b : w.heap[b_b]? = some (.cells [v_ys, (.bool true)].toArray 109 (0, 0))) (p_ys : Rd w encSpanI v_ys ys) (hx : xs.length ≤ 4194304) (hy : ys.length ≤ 4194304) :
    Calls Try.prog 39 #[(.pointer (some ⟨b_a, 0, none⟩)), (.pointer (some ⟨b_b, 0, none⟩))] w (Ret fun v w' => v = (.bool (decide (xs = ys))) ∧ Below w.heap.size w w') := by
  refine enter (args := [(.pointer (some ⟨b_a, 0, none⟩)), (.pointer (some ⟨b_b, 0, none⟩))]) Try.func39 rfl (by kernel_rfl : _ = 10) (by kernel_rfl) ?_
  have hb := Below.refl w.heap.size w
  have hs : w.heap.size ≤ w.heap.size := Nat.le_refl _
  have in_p_xs := p_xs
  have in_p_ys := p_ys
  refine W_seq (W_region (L_as (L_nil (thenQ_normal (W_seq (W_region (L_mv (L_call 75 [(.pointer (some ⟨b_a, 0, none⟩))] (by kernel_rfl) (by kernel_rfl) (c_list_I b_a v_xs xs _ o_a p_xs) ?_))))))))
  rintro qv4 w1 ⟨hqv4, hB2⟩
  subst qv4
  replace hb := hb.trans (hB2.mono hs)
  replace hs := Nat.le_trans hs (hB2.size)
  replace o_a := obj_below o_a hB2
  replace o_b := obj_below o_b hB2
  replace p_xs := p_xs.below hB2
  replace p_ys := p_ys.below hB2
  refine L_mv (L_call 75 [(.pointer (some ⟨b_b, 0, none⟩))] (by kernel_rfl) (by kernel_rfl) (c_list_I b_b v_ys ys _ o_b p_ys) ?_)
  rintro qv8 w5 ⟨hqv8, hB6⟩
  subst qv8
  replace hb := hb.trans (hB6.mono hs)
  replace hs := Nat.le_trans hs (hB6.size)
  replace o_a := obj_below o_a hB6
  replace o_b := obj_below o_b hB6
  replace p_xs := p_xs.below hB6
  replace p_ys := p_ys.below hB6
  refine L_call 74 [v_xs, v_ys] (by kernel_rfl) (by kernel_rfl) (c_equal_I v_xs xs v_ys ys _ p_xs p_ys (by omega) (by omega)) ?_
  rintro _ w9 ⟨rfl, hB10⟩
  replace hb := hb.trans (hB10.mono hs)
  replace hs := Nat.le_trans hs (hB10.size)
  replace o_a := obj_below o_a hB10
  replace o_b := obj_below o_b hB10
  replace p_xs := p_xs.below hB10
  replace p_ys := p_ys.below hB10
  refine put_split (decide (xs = ys)) ?_ ?_
  · intro h12
    refine L_as (L_nil (thenQ_normal (W_ret ?_)))
    refine end_ret [.tmp 4] [(.bool true)] rfl rfl ⟨by kernel_rfl, trivial⟩ ?_
    have e0 : true = (decide (xs = ys)) := by first | rfl | exact Eq.symm (by assumption)
    exact ⟨congrArg Value.bool e0, hb⟩
  · intro h13
    refine L_as (L_nil (thenQ_normal (W_ret ?_)))
    refine end_ret [.tmp 4] [(.bool false)] rfl rfl ⟨by kernel_rfl, trivial⟩ ?_
    have e0 : false = (decide (xs = ys)) := by first | rfl | exact Eq.symm (by assumption)
    exact ⟨congrArg Value.bool e0, hb⟩

set_option maxHeartbeats 4000000 in
set_option maxRecDepth 100000 in
theorem c_same_S (b_a : Nat) (v_xs : Value) (xs : List (Int × Int × List UInt8)) (b_b : Nat) (v_ys : Value) (ys : List (Int × Int × List UInt8)) (w : World) (o_a : w.heap[b_a]? = some (.cells [v_xs, (.bool true)].toArray 136 (0, 0))) (p_xs : Rd w encSpanS v_xs xs) (o_b : w.heap[b_b]? = some (.cells [v_ys, (.bool true)].toArray 136 (0, 0))) (p_ys : Rd w encSpanS v_ys ys) (hx : xs.length ≤ 4194304) (hy : ys.length ≤ 4194304) :
    Calls Try.prog 40 #[(.pointer (some ⟨b_a, 0, none⟩)), (.pointer (some ⟨b_b, 0, none⟩))] w (Ret fun v w' => v = (.bool (decide (xs = ys))) ∧ Below w.heap.size w w') := by
  refine enter (args := [(.pointer (some ⟨b_a, 0, none⟩)), (.pointer (some ⟨b_b, 0, none⟩))]) Try.func40 rfl (by kernel_rfl : _ = 10) (by kernel_rfl) ?_
  have hb := Below.refl w.heap.size w
  have hs : w.heap.size ≤ w.heap.size := Nat.le_refl _
  have in_p_xs := p_xs
  have in_p_ys := p_ys
  refine W_seq (W_region (L_as (L_nil (thenQ_normal (W_seq (W_region (L_mv (L_call 77 [(.pointer (some ⟨b_a, 0, none⟩))] (by kernel_rfl) (by kernel_rfl) (c_list_S b_a v_xs xs _ o_a p_xs) ?_))))))))
  rintro qv4 w1 ⟨hqv4, hB2⟩
  subst qv4
  replace hb := hb.trans (hB2.mono hs)
  replace hs := Nat.le_trans hs (hB2.size)
  replace o_a := obj_below o_a hB2
  replace o_b := obj_below o_b hB2
  replace p_xs := p_xs.below hB2
  replace p_ys := p_ys.below hB2
  refine L_mv (L_call 77 [(.pointer (some ⟨b_b, 0, none⟩))] (by kernel_rfl) (by kernel_rfl) (c_list_S b_b v_ys ys _ o_b p_ys) ?_)
  rintro qv8 w5 ⟨hqv8, hB6⟩
  subst qv8
  replace hb := hb.trans (hB6.mono hs)
  replace hs := Nat.le_trans hs (hB6.size)
  replace o_a := obj_below o_a hB6
  replace o_b := obj_below o_b hB6
  replace p_xs := p_xs.below hB6
  replace p_ys := p_ys.below hB6
  refine L_call 76 [v_xs, v_ys] (by kernel_rfl) (by kernel_rfl) (c_equal_S v_xs xs v_ys ys _ p_xs p_ys (by omega) (by omega)) ?_
  rintro _ w9 ⟨rfl, hB10⟩
  replace hb := hb.trans (hB10.mono hs)
  replace hs := Nat.le_trans hs (hB10.size)
  replace o_a := obj_below o_a hB10
  replace o_b := obj_below o_b hB10
  replace p_xs := p_xs.below hB10
  replace p_ys := p_ys.below hB10
  refine put_split (decide (xs = ys)) ?_ ?_
  · intro h12
    refine L_as (L_nil (thenQ_normal (W_ret ?_)))
    refine end_ret [.tmp 4] [(.bool true)] rfl rfl ⟨by kernel_rfl, trivial⟩ ?_
    have e0 : true = (decide (xs = ys)) := by first | rfl | exact Eq.symm (by assumption)
    exact ⟨congrArg Value.bool e0, hb⟩
  · intro h13
    refine L_as (L_nil (thenQ_normal (W_ret ?_)))
    refine end_ret [.tmp 4] [(.bool false)] rfl rfl ⟨by kernel_rfl, trivial⟩ ?_
    have e0 : false = (decide (xs = ys)) := by first | rfl | exact Eq.symm (by assumption)
    exact ⟨congrArg Value.bool e0, hb⟩

set_option maxHeartbeats 4000000 in
set_option maxRecDepth 100000 in
theorem c_even (n : Int) (w : World) :
    Calls Try.prog 32 #[(.int .i64 n)] w (Ret fun v w' => v = (.bool (evenB n)) ∧ Below w.heap.size w w') := by
  refine enter (args := [(.int .i64 n)]) Try.func32 rfl (by kernel_rfl : _ = 6) (by kernel_rfl) ?_
  have hb := Below.refl w.heap.size w
  have hs : w.heap.size ≤ w.heap.size := Nat.le_refl _
  refine W_seq (W_region (L_as (L_nil (thenQ_normal (W_seq (W_region (L_mv (L_remZ (k := .i64) n 2 (by decide) (by kernel_rfl) (by kernel_rfl) (L_cmp .i64 (n.tmod 2) 0 ((n.tmod 2) = 0) rfl (cmp_eq (n.tmod 2) 0) (by kernel_rfl) (by kernel_rfl) ?_ ?_)))))))))
  · intro h1
    replace h1 : (n.tmod 2) = 0 := by omega
    refine L_as (L_nil (thenQ_normal (W_ret ?_)))
    refine end_ret [.tmp 2] [(.bool true)] rfl rfl ⟨by kernel_rfl, trivial⟩ ?_
    have e0 : true = (evenB n) := by first | exact evenB_y (by assumption) | exact evenB_n (by assumption)
    exact ⟨congrArg Value.bool e0, hb⟩
  · intro h2
    replace h2 : (n.tmod 2) ≠ 0 := by omega
    refine L_as (L_nil (thenQ_normal (W_ret ?_)))
    refine end_ret [.tmp 2] [(.bool false)] rfl rfl ⟨by kernel_rfl, trivial⟩ ?_
    have e0 : false = (evenB n) := by first | exact evenB_y (by assumption) | exact evenB_n (by assumption)
    exact ⟨congrArg Value.bool e0, hb⟩

set_option maxHeartbeats 4000000 in
set_option maxRecDepth 100000 in
theorem c_tell (u : Bool) (w : World) :
    Calls Try.prog 33 #[(.bool u)] w (Ret fun v w' => v = (S (tellB u)) ∧ Below w.heap.size w w') := by
  refine enter (args := [(.bool u)]) Try.func33 rfl (by kernel_rfl : _ = 4) (by kernel_rfl) ?_
  have hb := Below.refl w.heap.size w
  have hs : w.heap.size ≤ w.heap.size := Nat.le_refl _
  refine W_seq (W_region (L_as (L_nil (thenQ_normal (W_seq (W_seq (W_region (L_mv (L_nil (thenQ_normal ?_))))))))))
  rcases Bool.eq_false_or_eq_true u with hc1 | hc1
  · skip
    refine W_ifT hc1 (by kernel_rfl) (W_seq (W_region (L_as (L_nil (thenQ_normal (W_ret (thenQ_ret ?_)))))))
    refine end_ret [.tmp 2] [(S ([101, 118, 101, 110] : List UInt8))] rfl rfl ⟨by kernel_rfl, trivial⟩ ?_
    have e0 : ([101, 118, 101, 110] : List UInt8) = (tellB u) := by first | exact tellB_y (by assumption) | exact tellB_n (by assumption)
    exact ⟨congrArg S e0, hb⟩
  · skip
    refine W_ifF hc1 (by kernel_rfl) (W_skip (thenQ_normal (W_seq (W_region (L_as (L_nil (thenQ_normal (W_ret ?_))))))))
    refine end_ret [.tmp 2] [(S ([111, 100, 100] : List UInt8))] rfl rfl ⟨by kernel_rfl, trivial⟩ ?_
    have e0 : ([111, 100, 100] : List UInt8) = (tellB u) := by first | exact tellB_y (by assumption) | exact tellB_n (by assumption)
    exact ⟨congrArg S e0, hb⟩

set_option maxHeartbeats 4000000 in
set_option maxRecDepth 100000 in
theorem c_tellE (n : Int) (w : World) :
    Calls Try.prog 35 #[(.int .i64 n)] w (Ret fun v w' => v = (S (tellB (evenB n))) ∧ Below w.heap.size w w') := by
  refine enter (args := [(.int .i64 n)]) Try.func35 rfl (by kernel_rfl : _ = 6) (by kernel_rfl) ?_
  have hb := Below.refl w.heap.size w
  have hs : w.heap.size ≤ w.heap.size := Nat.le_refl _
  refine W_seq (W_region (L_as (L_nil (thenQ_normal (W_seq (W_seq (W_region (L_mv (L_remZ (k := .i64) n 2 (by decide) (by kernel_rfl) (by kernel_rfl) (L_cmp .i64 (n.tmod 2) 0 ((n.tmod 2) = 0) rfl (cmp_eq (n.tmod 2) 0) (by kernel_rfl) (by kernel_rfl) ?_ ?_))))))))))
  · intro h1
    replace h1 : (n.tmod 2) = 0 := by omega
    refine L_nil (thenQ_normal (W_true (by kernel_rfl) (W_seq (W_region (L_as (L_nil (thenQ_normal (W_ret (thenQ_ret ?_)))))))))
    refine end_ret [.tmp 2] [(S ([101, 118, 101, 110] : List UInt8))] rfl rfl ⟨by kernel_rfl, trivial⟩ ?_
    have e0 : ([101, 118, 101, 110] : List UInt8) = (tellB (evenB n)) := by first | exact tellE_y (by assumption) | exact tellE_n (by assumption)
    exact ⟨congrArg S e0, hb⟩
  · intro h2
    replace h2 : (n.tmod 2) ≠ 0 := by omega
    refine L_nil (thenQ_normal (W_false (by kernel_rfl) (W_skip (thenQ_normal (W_seq (W_region (L_as (L_nil (thenQ_normal (W_ret ?_))))))))))
    refine end_ret [.tmp 2] [(S ([111, 100, 100] : List UInt8))] rfl rfl ⟨by kernel_rfl, trivial⟩ ?_
    have e0 : ([111, 100, 100] : List UInt8) = (tellB (evenB n)) := by first | exact tellE_y (by assumption) | exact tellE_n (by assumption)
    exact ⟨congrArg S e0, hb⟩

set_option maxHeartbeats 4000000 in
set_option maxRecDepth 100000 in
theorem c_none_nil_I (w : World) :
    Calls Try.prog 56 #[(.pointer none)] w (Ret fun v w' => v = (.bool true) ∧ Below w.heap.size w w') := by
  refine enter (args := [(.pointer none)]) Try.func56 rfl (by kernel_rfl : _ = 12) (by kernel_rfl) ?_
  have hb := Below.refl w.heap.size w
  have hs : w.heap.size ≤ w.heap.size := Nat.le_refl _
  refine W_seq (W_region (L_as (L_nil (thenQ_normal (W_seq (W_region (L_mv (L_run (.bool true) (by kernel_rfl) (by kernel_rfl) (L_mv (L_skip (by kernel_rfl) (L_skip (by kernel_rfl) (L_skip (by kernel_rfl) (L_skip (by kernel_rfl) (L_skip (by kernel_rfl) (L_pickT (by kernel_rfl) (L_as (L_nil (thenQ_normal (W_ret ?_)))))))))))))))))))
  refine end_ret [.tmp 2] [(.bool true)] rfl rfl ⟨by kernel_rfl, trivial⟩ ?_
  have e0 : true = true := by rfl
  exact ⟨congrArg Value.bool e0, hb⟩


set_option maxHeartbeats 4000000 in
set_option maxRecDepth 100000 in
theorem it_all_nil_I (b_m : Nat)  :
    Iter (α := SpI) Try.prog 103 [.pointer (some ⟨b_m, 0, none⟩)] (fun x => [.agg #[.int .i32 x.1, .int .i32 x.2.1], .int .i64 x.2.2]) ([] : List SpI) (fun w => w.heap[b_m]? = some (.cells [(.pointer none)].toArray 41 (0, 0))) := by
  intro l J Jx w hN h0 hJs hJxs hY
  refine enter (args := [(.func (.yield l) #[] #[]), (.pointer (some ⟨b_m, 0, none⟩))]) Try.func103 rfl (by kernel_rfl : _ = 28) (by kernel_rfl) ?_
  have hb := Below.refl w.heap.size w
  have hs : w.heap.size ≤ w.heap.size := Nat.le_refl _
  have o_capm := hN
  refine W_seq (W_seq (W_region (L_load b_m 0 (.pointer none) (by kernel_rfl) (by kernel_rfl) (cell_obj o_capm rfl) (L_call 56 [(.pointer none)] (by kernel_rfl) (by kernel_rfl) (c_none_nil_I  _ ) ?_))))
  rintro _ w1 ⟨rfl, hB2⟩
  replace hb := hb.trans (hB2.mono hs)
  replace hs := Nat.le_trans hs (hB2.size)
  replace o_capm := obj_below o_capm hB2
  refine L_nil (thenQ_normal (W_true (by kernel_rfl) (W_ret (thenQ_ret ?_))))
  refine end_ret [] [] rfl rfl trivial ?_
  have hJ := h0 _ hb
  obtain ⟨K, hKe⟩ : ∃ K, K = w1.heap.size := ⟨_, rfl⟩
  rw [← hKe] at hJ
  have hK : K ≤ w1.heap.size := by omega
  have hK0 : w.heap.size ≤ K := by omega
  have epre : [] = ([] : List SpI) := by rfl
  rw [epre] at hJ
  exact ⟨hs, Or.inl ⟨K, hJ⟩⟩


set_option maxHeartbeats 4000000 in
set_option maxRecDepth 100000 in
theorem c_all_nil_I (w : World) :
    Calls Try.prog 61 #[(.pointer none)] w (Ret fun v w' => ∃ (cb0 : Nat), v = (.func (.func 103) #[] #[(.pointer (some ⟨cb0, 0, none⟩))]) ∧ w'.heap[cb0]? = some (.cells [(.pointer none)].toArray 41 (0, 0)) ∧ w.heap.size ≤ cb0 ∧ Below w.heap.size w w') := by
  refine enter (args := [(.pointer none)]) Try.func61 rfl (by kernel_rfl : _ = 4) (by kernel_rfl) ?_
  have hb := Below.refl w.heap.size w
  have hs : w.heap.size ≤ w.heap.size := Nat.le_refl _
  refine W_seq (W_region (L_new (fun b => .pointer (some ⟨b, 0, none⟩)) (.cells [(.pointer none)].toArray 41 (0, 0)) (by kernel_rfl) (by kernel_rfl) ?_))
  intro b1 w2 hN3
  have g_x1 : w.heap.size ≤ b1 := by rw [hN3.num]; exact hs
  replace hb := hb.trans (hN3.below.mono hs)
  replace hs := Nat.le_trans hs (hN3.below.size)
  have o_x1 := hN3.here
  refine L_as (L_nil (thenQ_normal (W_seq (W_region (L_run (.func (.func 103) #[] #[(.pointer (some ⟨b1, 0, none⟩))]) (by kernel_rfl) (by kernel_rfl) (L_as (L_nil (thenQ_normal (W_ret ?_)))))))))
  refine end_ret [.tmp 2] [(.func (.func 103) #[] #[(.pointer (some ⟨b1, 0, none⟩))])] rfl rfl ⟨by kernel_rfl, trivial⟩ ?_
  exact ⟨b1, rfl, o_x1, g_x1, hb⟩


set_option maxHeartbeats 4000000 in
set_option maxRecDepth 100000 in
theorem c_over_I (b_low : Nat) (v_xs : Value) (xs : List (Int × Int × Int)) (b_high : Nat) (v_ys : Value) (ys : List (Int × Int × Int)) (w : World) (o_low : w.heap[b_low]? = some (.cells [v_xs, (.bool true)].toArray 109 (0, 0))) (p_xs : Rd w encSpanI v_xs xs) (o_high : w.heap[b_high]? = some (.cells [v_ys, (.bool true)].toArray 109 (0, 0))) (p_ys : Rd w encSpanI v_ys ys) (hrx : RiseG 0 xs) (hry : RiseG 0 ys) :
    Calls Try.prog 29 #[(.pointer (some ⟨b_low, 0, none⟩)), (.pointer (some ⟨b_high, 0, none⟩))] w (Ret fun v w' => ∃ (q0 : Value) (cb0 : Nat), v = (.pointer (some ⟨cb0, 0, none⟩)) ∧ Row w' w.heap.size 113 3 encSpanI q0 (overF eqI xs ys) ∧ w'.heap[cb0]? = some (.cells [q0, (.bool true)].toArray 109 (0, 0)) ∧ w.heap.size ≤ cb0 ∧ Below w.heap.size w w') := by
  refine enterM (args := [(.pointer (some ⟨b_low, 0, none⟩)), (.pointer (some ⟨b_high, 0, none⟩))]) Try.func29 rfl (by kernel_rfl : _ = 29) (by kernel_rfl) ?_
  have hb := Below.refl w.heap.size w
  have hs : w.heap.size ≤ w.heap.size := Nat.le_refl _
  have in_p_xs := p_xs
  have in_p_ys := p_ys
  have hlhrx := hrx.len
  have hlhry := hry.len
  refine W_seq (W_region (L_as (L_nil (thenQ_normal (W_seq (W_region (L_call 14 [] (by kernel_rfl) (by kernel_rfl) (c_new_I  _ ) ?_)))))))
  rintro _ w1 ⟨cb4, rfl, o_cb4, g_cb4, hB2⟩
  have ne_low_cb4 : b_low ≠ cb4 := by have := (obj_lt o_low); omega
  have ne_cb4_low := ne_low_cb4.symm
  have ne_high_cb4 : b_high ≠ cb4 := by have := (obj_lt o_high); omega
  have ne_cb4_high := ne_high_cb4.symm
  replace g_cb4 := Nat.le_trans hs g_cb4
  replace hb := hb.trans (hB2.mono hs)
  replace hs := Nat.le_trans hs (hB2.size)
  replace o_low := obj_below o_low hB2
  replace o_high := obj_below o_high hB2
  replace p_xs := p_xs.below hB2
  replace p_ys := p_ys.below hB2
  refine L_new (fun b => .pointer (some ⟨b, 0, none⟩)) (.cells [(.pointer none)].toArray 41 (0, 0)) (by kernel_rfl) (by kernel_rfl) ?_
  intro b5 w6 hN7
  have ne_low_x5 : b_low ≠ b5 := by have := (obj_lt o_low); have := hN7.num; omega
  have ne_x5_low := ne_low_x5.symm
  have ne_high_x5 : b_high ≠ b5 := by have := (obj_lt o_high); have := hN7.num; omega
  have ne_x5_high := ne_high_x5.symm
  have ne_cb4_x5 : cb4 ≠ b5 := by have := (obj_lt o_cb4); have := hN7.num; omega
  have ne_x5_cb4 := ne_cb4_x5.symm
  have g_x5 : w.heap.size ≤ b5 := by rw [hN7.num]; exact hs
  replace hb := hb.trans (hN7.below.mono hs)
  replace hs := Nat.le_trans hs (hN7.below.size)
  replace o_low := obj_below o_low hN7.below
  replace o_high := obj_below o_high hN7.below
  replace o_cb4 := obj_below o_cb4 hN7.below
  replace p_xs := p_xs.below hN7.below
  replace p_ys := p_ys.below hN7.below
  have o_x5 := hN7.here
  refine L_store b5 0 (.pointer (some ⟨cb4, 0, none⟩)) [(.pointer none)] [(.pointer (some ⟨cb4, 0, none⟩))] 41 (by kernel_rfl) (by kernel_rfl) rfl (by kernel_rfl) o_x5 (by simp) rfl ?_
  intro w8 hW9
  replace hb := hb.trans (hW9.below g_x5)
  replace hs := Nat.le_trans hs (Nat.le_of_eq hW9.size.symm)
  have n_o_low := obj_wrote o_low hW9 (obj_ne o_low o_x5 (by simp))
  have n_o_high := obj_wrote o_high hW9 (obj_ne o_high o_x5 (by simp))
  have n_o_cb4 := obj_wrote o_cb4 hW9 (obj_ne o_cb4 o_x5 (by simp))
  have n_p_xs := in_p_xs.below hb
  have n_p_ys := in_p_ys.below hb
  replace o_low := n_o_low; clear n_o_low
  replace o_high := n_o_high; clear n_o_high
  replace o_cb4 := n_o_cb4; clear n_o_cb4
  replace p_xs := n_p_xs; clear n_p_xs
  replace p_ys := n_p_ys; clear n_p_ys
  replace o_x5 := hW9.here
  refine L_nil (thenQ_normal (W_seq (W_seq (W_region (L_mv (L_mv (L_new (fun b => .slice (some ⟨b, 0, none⟩) 2 2) (.cells [(.pointer (some ⟨b_low, 0, none⟩)), (.pointer (some ⟨b_high, 0, none⟩))].toArray 41 (0, 0)) (by kernel_rfl) (by kernel_rfl) ?_)))))))
  intro b10 w11 hN12
  have g_b10 : w.heap.size ≤ b10 := by rw [hN12.num]; exact hs
  replace hb := hb.trans (hN12.below.mono hs)
  replace hs := Nat.le_trans hs (hN12.below.size)
  replace o_low := obj_below o_low hN12.below
  replace o_high := obj_below o_high hN12.below
  replace o_cb4 := obj_below o_cb4 hN12.below
  replace o_x5 := obj_below o_x5 hN12.below
  replace p_xs := p_xs.below hN12.below
  replace p_ys := p_ys.below hN12.below
  have r_b10 : Row w11 w.heap.size 41 1 encPtr (.slice (some ⟨b10, 0, none⟩) 2 2) ([some b_low, some b_high] : List (Option Nat)) := Row.made ([some b_low, some b_high] : List (Option Nat)) hN12 g_b10 rfl rfl (by first | decide | (simp; done))
  refine L_len 133 41 2 (.slice (some ⟨b10, 0, none⟩) 2 2) rfl Try.underlying133 (r_b10.rd).len (by kernel_rfl) (L_mv (L_nil (thenQ_normal (W_block (W_unroll 2 (W_seq (W_region (L_run (.bool true) (by kernel_rfl) (by kernel_rfl) (L_nil (thenQ_normal (W_seq (W_true (by kernel_rfl) (W_skip (thenQ_normal (W_seq (W_block (W_seq (W_region ?_))))))))))))))))))
  have hx14 : ([some b_low, some b_high] : List (Option Nat))[0]? = some (some b_low) := rfl
  have hz := (r_b10.rd).at (k := 1) (fun _ => rfl) hx14
  obtain ⟨g15, off16, hl17, hc18⟩ := hz
  refine L_ixaddr (k := .i64) (.slice (some ⟨b10, 0, none⟩) 2 2) 0 _ g15 off16 el133 hl17 (by first | omega | (simp; done)) (by kernel_rfl) (by kernel_rfl) (L_load g15 (off16 + 0 * 1) (.pointer (some ⟨b_low, 0, none⟩)) (by kernel_rfl) (by kernel_rfl) (hc18 0 _ rfl) (L_as (L_nil (thenQ_normal (W_seq (W_region (L_mv (L_call 61 [(.pointer (some ⟨b_low, 0, none⟩))] (by kernel_rfl) (by kernel_rfl) (c_all_I b_low v_xs xs _ o_low p_xs) ?_))))))))
  rintro _ w19 ⟨cb22, rfl, o_cb22, g_cb22, hB20⟩
  have ne_low_cb22 : b_low ≠ cb22 := by have := (obj_lt o_low); omega
  have ne_cb22_low := ne_low_cb22.symm
  have ne_high_cb22 : b_high ≠ cb22 := by have := (obj_lt o_high); omega
  have ne_cb22_high := ne_high_cb22.symm
  have ne_cb4_cb22 : cb4 ≠ cb22 := by have := (obj_lt o_cb4); omega
  have ne_cb22_cb4 := ne_cb4_cb22.symm
  have ne_x5_cb22 : b5 ≠ cb22 := by have := (obj_lt o_x5); omega
  have ne_cb22_x5 := ne_x5_cb22.symm
  have nb_o_cb22_r_b10 := Row.nb_ge r_b10 g_cb22
  replace g_cb22 := Nat.le_trans hs g_cb22
  replace hb := hb.trans (hB20.mono hs)
  replace hs := Nat.le_trans hs (hB20.size)
  replace o_low := obj_below o_low hB20
  replace o_high := obj_below o_high hB20
  replace o_cb4 := obj_below o_cb4 hB20
  replace o_x5 := obj_below o_x5 hB20
  replace p_xs := p_xs.below hB20
  replace p_ys := p_ys.below hB20
  replace r_b10 := r_b10.below hB20
  refine L_nil (thenQ_normal (W_block ?_))
  have lt_low_0 : b_low < w19.heap.size := obj_lt o_low
  have lt_high_0 : b_high < w19.heap.size := obj_lt o_high
  have lt_cb4_0 : cb4 < w19.heap.size := obj_lt o_cb4
  have lt_x5_0 : b5 < w19.heap.size := obj_lt o_x5
  have lt_cb22_0 : cb22 < w19.heap.size := obj_lt o_cb22
  have hs_0 := hs
  have hb_0 := hb
  refine W_range 103 [(.pointer (some ⟨cb22, 0, none⟩))] xs (by kernel_rfl) (fun _ _ => rfl) (it_all_I cb22 b_low v_xs xs (by first | omega | (simp; done))) ⟨o_cb22, o_low, p_xs⟩ ((fun D A B h hc hd => ⟨obj_ch h.1 hc (fun h => Nat.not_lt.2 (hd _ h) lt_cb22_0), obj_ch h.2.1 hc (fun h => Nat.not_lt.2 (hd _ h) lt_low_0), Rd.ch p_xs (Nat.le_refl _) h.2.2 hc hd⟩)) (by intro x; rfl) (fun K pre A => ∃ (m : List SpI) (v_cb4_0 : Value), (A.heap[b_low]? = some (.cells [v_xs, (.bool true)].toArray 109 (0, 0))) ∧ (A.heap[b_high]? = some (.cells [v_ys, (.bool true)].toArray 109 (0, 0))) ∧ (A.heap[cb4]? = some (.cells [v_cb4_0, (.bool true)].toArray 109 (0, 0))) ∧ (A.heap[b5]? = some (.cells [(.pointer (some ⟨cb4, 0, none⟩))].toArray 41 (0, 0))) ∧ (A.heap[cb22]? = some (.cells [(.pointer (some ⟨b_low, 0, none⟩))].toArray 41 (0, 0))) ∧ (Row A w.heap.size 41 1 encPtr (.slice (some ⟨b10, 0, none⟩) 2 2) ([some b_low, some b_high] : List (Option Nat))) ∧ (∀ g, Value.ownBlock (.slice (some ⟨b10, 0, none⟩) 2 2) = some g → ¬ Iv w19.heap.size K g) ∧ (Row A w.heap.size 113 3 encSpanI v_cb4_0 m) ∧ (∀ g, Value.ownBlock v_cb4_0 = some g → ¬ Iv w19.heap.size K g) ∧ (Below w.heap.size w A) ∧ (m = layAll eqI [] pre) ∧ (RiseG 0 m)) (fun K c pre A => False) ?_ ?_ ?_ ?_ ?_ ?_
  · intro A hA
    exact ⟨[], (.slice none 0 0), obj_below o_low hA, obj_below o_high hA, obj_below o_cb4 hA, obj_below o_x5 hA, obj_below o_cb22 hA, r_b10.below hA, nr_old r_b10 _, Row.nil _ _ _ _ _, nr_nil _ _, hb.trans (hA.mono hs), by rfl, by trivial⟩
  · rintro K pre A B ⟨m, v_cb4_0, o_low, o_high, o_cb4, o_x5, o_cb22, r_b10, nr_r_b10, r_cb4_0, nr_r_cb4_0, hb, r1, r2⟩ hc
    exact ⟨m, v_cb4_0, obj_ch o_low hc (fun h => Nat.not_lt.2 h.1 lt_low_0), obj_ch o_high hc (fun h => Nat.not_lt.2 h.1 lt_high_0), obj_ch o_cb4 hc (fun h => Nat.not_lt.2 h.1 lt_cb4_0), obj_ch o_x5 hc (fun h => Nat.not_lt.2 h.1 lt_x5_0), obj_ch o_cb22 hc (fun h => Nat.not_lt.2 h.1 lt_cb22_0), r_b10.ch hc nr_r_b10, nr_r_b10, r_cb4_0.ch hc nr_r_cb4_0, nr_r_cb4_0, hc.below hb hb.size (fun k h => Nat.le_trans hs_0 h.1), r1, r2⟩
  · intro K c _ A B h hc; exact h.elim
  · intro l K pre x A hi hN hK0 hK hpre
    obtain ⟨m, v_cb4_0, o_low, o_high, o_cb4, o_x5, o_cb22, r_b10, nr_r_b10, r_cb4_0, nr_r_cb4_0, hb, r1, r2⟩ := hi
    have hs := hb.size
    have hk := Kp.refl (w19.heap.size) K A
    have nv_low : ¬ Iv (w19.heap.size) K b_low := fun h => Nat.not_lt.2 h.1 lt_low_0
    have nv_high : ¬ Iv (w19.heap.size) K b_high := fun h => Nat.not_lt.2 h.1 lt_high_0
    have nv_cb4 : ¬ Iv (w19.heap.size) K cb4 := fun h => Nat.not_lt.2 h.1 lt_cb4_0
    have nv_x5 : ¬ Iv (w19.heap.size) K b5 := fun h => Nat.not_lt.2 h.1 lt_x5_0
    have nv_cb22 : ¬ Iv (w19.heap.size) K cb22 := fun h => Nat.not_lt.2 h.1 lt_cb22_0
    have p_xs := in_p_xs.below hb
    have p_ys := in_p_ys.below hb
    replace o_cb22 := hN.1
    replace o_low := hN.2.1
    have hx := hrx.pre hpre
    refine W_seq (W_region (L_new (fun b => .pointer (some ⟨b, 0, none⟩)) (.cells [(.int .i32 0), (.int .i32 0)].toArray 29 (0, 0)) (by kernel_rfl) (by kernel_rfl) ?_))
    intro b23 w24 hN25
    have ne_low_x8 : b_low ≠ b23 := by have := (obj_lt o_low); have := hN25.num; omega
    have ne_x8_low := ne_low_x8.symm
    have ne_high_x8 : b_high ≠ b23 := by have := (obj_lt o_high); have := hN25.num; omega
    have ne_x8_high := ne_high_x8.symm
    have ne_cb4_x8 : cb4 ≠ b23 := by have := (obj_lt o_cb4); have := hN25.num; omega
    have ne_x8_cb4 := ne_cb4_x8.symm
    have ne_x5_x8 : b5 ≠ b23 := by have := (obj_lt o_x5); have := hN25.num; omega
    have ne_x8_x5 := ne_x5_x8.symm
    have ne_cb22_x8 : cb22 ≠ b23 := by have := (obj_lt o_cb22); have := hN25.num; omega
    have ne_x8_cb22 := ne_cb22_x8.symm
    have g_x8 : w.heap.size ≤ b23 := by rw [hN25.num]; exact hs
    have nv_x8 : ¬ Iv w19.heap.size K b23 := fun h => by have := h.2; have := hN25.num; omega
    replace hb := hb.trans (hN25.below.mono hs)
    replace hk := hk.ch (Ch.of_below hN25.below) hK (fun _ h => h.elim)
    replace hK := Nat.le_trans hK (hN25.below.size)
    replace hs := Nat.le_trans hs (hN25.below.size)
    replace o_low := obj_below o_low hN25.below
    replace o_high := obj_below o_high hN25.below
    replace o_cb4 := obj_below o_cb4 hN25.below
    replace o_x5 := obj_below o_x5 hN25.below
    replace o_cb22 := obj_below o_cb22 hN25.below
    replace p_xs := p_xs.below hN25.below
    replace p_ys := p_ys.below hN25.below
    replace r_b10 := r_b10.below hN25.below
    replace r_cb4_0 := r_cb4_0.below hN25.below
    have o_x8 := hN25.here
    refine L_storeA b23 0 [(.int .i32 x.1), (.int .i32 x.2.1)] [(.int .i32 0), (.int .i32 0)] [(.int .i32 x.1), (.int .i32 x.2.1)] 29 (by kernel_rfl) (by kernel_rfl) rfl (by kernel_rfl) o_x8 (by kernel_rfl) rfl ?_
    intro w26 hW27
    replace hb := hb.trans (hW27.below g_x8)
    replace hk := hk.ch (Ch.of_wrote hW27) hK (fun k e h => nv_x8 (e ▸ h))
    replace hK := Nat.le_trans hK (Nat.le_of_eq hW27.size.symm)
    replace hs := Nat.le_trans hs (Nat.le_of_eq hW27.size.symm)
    have n_o_low := obj_wrote o_low hW27 (obj_ne o_low o_x8 (by simp))
    have n_o_high := obj_wrote o_high hW27 (obj_ne o_high o_x8 (by simp))
    have n_o_cb4 := obj_wrote o_cb4 hW27 (obj_ne o_cb4 o_x8 (by simp))
    have n_o_x5 := obj_wrote o_x5 hW27 (obj_ne o_x5 o_x8 (by simp))
    have n_o_cb22 := obj_wrote o_cb22 hW27 (obj_ne o_cb22 o_x8 (by simp))
    have n_p_xs := in_p_xs.below hb
    have n_p_ys := in_p_ys.below hb
    have n_r_b10 := r_b10.wrote hW27 (r_b10.ne o_x8 (by simp))
    have n_r_cb4_0 := r_cb4_0.wrote hW27 (r_cb4_0.ne o_x8 (by simp))
    replace o_low := n_o_low; clear n_o_low
    replace o_high := n_o_high; clear n_o_high
    replace o_cb4 := n_o_cb4; clear n_o_cb4
    replace o_x5 := n_o_x5; clear n_o_x5
    replace o_cb22 := n_o_cb22; clear n_o_cb22
    replace p_xs := n_p_xs; clear n_p_xs
    replace p_ys := n_p_ys; clear n_p_ys
    replace r_b10 := n_r_b10; clear n_r_b10
    replace r_cb4_0 := n_r_cb4_0; clear n_r_cb4_0
    replace o_x8 := hW27.here
    refine L_nil (thenQ_normal (W_region (L_as (L_nil ?_))))
    refine thenQ_normal ⟨hk, ?_⟩
    intro w28 hc29
    replace o_low := obj_ch o_low hc29 nv_low
    replace o_high := obj_ch o_high hc29 nv_high
    replace o_cb4 := obj_ch o_cb4 hc29 nv_cb4
    replace o_x5 := obj_ch o_x5 hc29 nv_x5
    replace o_cb22 := obj_ch o_cb22 hc29 nv_cb22
    replace o_x8 := obj_ch o_x8 hc29 nv_x8
    replace r_b10 := r_b10.ch hc29 nr_r_b10
    replace r_cb4_0 := r_cb4_0.ch hc29 nr_r_cb4_0
    replace hb := hc29.below hb hs (fun k h => Nat.le_trans hs_0 h.1)
    replace p_xs := in_p_xs.below hb
    replace p_ys := in_p_ys.below hb
    replace hs := hb.size
    replace hK := Nat.le_trans hK hc29.size
    replace hk := Kp.refl (w19.heap.size) K w28
    refine W_block (W_region (L_load b5 0 (.pointer (some ⟨cb4, 0, none⟩)) (by kernel_rfl) (by kernel_rfl) (cell_obj o_x5 rfl) (L_loadA b23 0 [(.int .i32 x.1), (.int .i32 x.2.1)] (by kernel_rfl) (by kernel_rfl) (by kernel_rfl) (cells_at o_x8 0 (by kernel_rfl)) (L_mv (L_call 16 [(.pointer (some ⟨cb4, 0, none⟩)), (Value.agg #[(.int .i32 x.1), (.int .i32 x.2.1)]), (.int .i64 x.2.2)] (by kernel_rfl) (by kernel_rfl) (c_lay_I cb4 v_cb4_0 m x.1 x.2.1 x.2.2 w.heap.size _ hs o_cb4 g_cb4 r_cb4_0 (by first | exact s2 | exact r2 | trivial) (by first | omega | (simp; done)) (by first | omega | (simp; done))) ?_)))))
    rintro _ w31 ⟨q30, rfl, ho34, r_q30, dm32, hC33⟩
    have hnk : ∀ k, Dm cb4 v_cb4_0 k → ¬ Iv (w19.heap.size) K k := fun k e => e.elim (fun x => by rw [x]; exact nv_cb4) (fun x => nr_r_cb4_0 k x)
    have nr_r_q30 : ∀ g, Value.ownBlock q30 = some g → ¬ Iv (w19.heap.size) K g := fun g hg => (dm32 g hg).elim (fun x y => by have := y.2; omega) (fun e => hnk g e)
    replace hk := hk.ch hC33 hK hnk
    replace hK := Nat.le_trans hK hC33.size
    replace hb := hC33.below hb hs (fun k e => e.elim (fun x => x ▸ g_cb4) (fun x => (World.ownsRow.lt r_cb4_0 k x).1))
    replace hs := Nat.le_trans hs hC33.size
    have n_o_low := obj_ch_mut o_low hC33 ne_low_cb4 (r_cb4_0.ne o_low (by simp))
    have n_o_high := obj_ch_mut o_high hC33 ne_high_cb4 (r_cb4_0.ne o_high (by simp))
    have n_o_x5 := obj_ch_mut o_x5 hC33 (obj_ne o_x5 o_cb4 (by simp)) (r_cb4_0.ne o_x5 (by simp))
    have n_o_cb22 := obj_ch_mut o_cb22 hC33 (obj_ne o_cb22 o_cb4 (by simp)) (r_cb4_0.ne o_cb22 (by simp))
    have n_o_x8 := obj_ch_mut o_x8 hC33 (obj_ne o_x8 o_cb4 (by simp)) (r_cb4_0.ne o_x8 (by simp))
    have n_p_xs := in_p_xs.below hb
    have n_p_ys := in_p_ys.below hb
    have n_r_b10 := r_b10.ch_mut hC33 (r_b10.ne o_cb4 (by simp)) (r_b10.apart r_cb4_0 (by kernel_rfl))
    replace o_low := n_o_low; clear n_o_low
    replace o_high := n_o_high; clear n_o_high
    replace o_x5 := n_o_x5; clear n_o_x5
    replace o_cb22 := n_o_cb22; clear n_o_cb22
    replace o_x8 := n_o_x8; clear n_o_x8
    replace p_xs := n_p_xs; clear n_p_xs
    replace p_ys := n_p_ys; clear n_p_ys
    replace r_b10 := n_r_b10; clear n_r_b10
    replace o_cb4 := ho34
    refine L_nil (blkQ_normal ?_)
    refine round_normal hk ⟨o_cb22, o_low, p_xs⟩ ⟨(layF eqI m x.1 x.2.1 x.2.2), q30, o_low, o_high, o_cb4, o_x5, o_cb22, r_b10, nr_r_b10, r_q30, nr_r_q30, hb, ?_, ?_⟩
    · rw [r1]; exact (layAll_snoc _ _ _).symm
    · exact layF_rise r2
  · intro K A hi hsz o_D0
    obtain ⟨m, v_cb4_0, o_low, o_high, o_cb4, o_x5, o_cb22, r_b10, nr_r_b10, r_cb4_0, nr_r_cb4_0, hb, r1, r2⟩ := hi
    have p_xs := in_p_xs.below hb
    have p_ys := in_p_ys.below hb
    have ne_low_D0 : b_low ≠ w19.heap.size := Nat.ne_of_lt lt_low_0
    have ne_D0_low := ne_low_D0.symm
    have ne_high_D0 : b_high ≠ w19.heap.size := Nat.ne_of_lt lt_high_0
    have ne_D0_high := ne_high_D0.symm
    have ne_cb4_D0 : cb4 ≠ w19.heap.size := Nat.ne_of_lt lt_cb4_0
    have ne_D0_cb4 := ne_cb4_D0.symm
    have ne_x5_D0 : b5 ≠ w19.heap.size := Nat.ne_of_lt lt_x5_0
    have ne_D0_x5 := ne_x5_D0.symm
    have ne_cb22_D0 : cb22 ≠ w19.heap.size := Nat.ne_of_lt lt_cb22_0
    have ne_D0_cb22 := ne_cb22_D0.symm
    have hs : w.heap.size ≤ _ := hb.size
    refine blkQ_normal (blkQ_normal (thenQ_normal (W_region (L_addN 0 1 (by omega) (by kernel_rfl) (by kernel_rfl) (L_mv (L_nil (thenQ_round (W_seq (W_region (L_run (.bool true) (by kernel_rfl) (by kernel_rfl) (L_nil (thenQ_normal (W_seq (W_true (by kernel_rfl) (W_skip (thenQ_normal (W_seq (W_block (W_seq (W_region ?_))))))))))))))))))))
    have hx36 : ([some b_low, some b_high] : List (Option Nat))[1]? = some (some b_high) := rfl
    have hz := (r_b10.rd).at (k := 1) (fun _ => rfl) hx36
    obtain ⟨g37, off38, hl39, hc40⟩ := hz
    refine L_ixaddr (k := .i64) (.slice (some ⟨b10, 0, none⟩) 2 2) 1 _ g37 off38 el133 hl39 (by first | omega | (simp; done)) (by kernel_rfl) (by kernel_rfl) (L_load g37 (off38 + 1 * 1) (.pointer (some ⟨b_high, 0, none⟩)) (by kernel_rfl) (by kernel_rfl) (hc40 0 _ rfl) (L_as (L_nil (thenQ_normal (W_seq (W_region (L_mv (L_call 61 [(.pointer (some ⟨b_high, 0, none⟩))] (by kernel_rfl) (by kernel_rfl) (c_all_I b_high v_ys ys _ o_high p_ys) ?_))))))))
    rintro _ w41 ⟨cb44, rfl, o_cb44, g_cb44, hB42⟩
    have ne_low_cb44 : b_low ≠ cb44 := by have := (obj_lt o_low); omega
    have ne_cb44_low := ne_low_cb44.symm
    have ne_high_cb44 : b_high ≠ cb44 := by have := (obj_lt o_high); omega
    have ne_cb44_high := ne_high_cb44.symm
    have ne_cb4_cb44 : cb4 ≠ cb44 := by have := (obj_lt o_cb4); omega
    have ne_cb44_cb4 := ne_cb4_cb44.symm
    have ne_x5_cb44 : b5 ≠ cb44 := by have := (obj_lt o_x5); omega
    have ne_cb44_x5 := ne_x5_cb44.symm
    have ne_cb22_cb44 : cb22 ≠ cb44 := by have := (obj_lt o_cb22); omega
    have ne_cb44_cb22 := ne_cb22_cb44.symm
    have ne_D0_cb44 : w19.heap.size ≠ cb44 := by have := (obj_lt o_D0); omega
    have ne_cb44_D0 := ne_D0_cb44.symm
    have nb_o_cb44_r_b10 := Row.nb_ge r_b10 g_cb44
    replace g_cb44 := Nat.le_trans hs g_cb44
    replace hb := hb.trans (hB42.mono hs)
    replace hs := Nat.le_trans hs (hB42.size)
    replace o_low := obj_below o_low hB42
    replace o_high := obj_below o_high hB42
    replace o_cb4 := obj_below o_cb4 hB42
    replace o_x5 := obj_below o_x5 hB42
    replace o_cb22 := obj_below o_cb22 hB42
    replace o_D0 := obj_below o_D0 hB42
    replace p_xs := p_xs.below hB42
    replace p_ys := p_ys.below hB42
    replace r_b10 := r_b10.below hB42
    replace r_cb4_0 := r_cb4_0.below hB42
    refine L_nil (thenQ_normal (W_block ?_))
    have lt_low_1 : b_low < w41.heap.size := obj_lt o_low
    have lt_high_1 : b_high < w41.heap.size := obj_lt o_high
    have lt_cb4_1 : cb4 < w41.heap.size := obj_lt o_cb4
    have lt_x5_1 : b5 < w41.heap.size := obj_lt o_x5
    have lt_cb22_1 : cb22 < w41.heap.size := obj_lt o_cb22
    have lt_D0_1 : w19.heap.size < w41.heap.size := obj_lt o_D0
    have lt_cb44_1 : cb44 < w41.heap.size := obj_lt o_cb44
    have hs_1 := hs
    have hb_1 := hb
    refine W_range 103 [(.pointer (some ⟨cb44, 0, none⟩))] ys (by kernel_rfl) (fun _ _ => rfl) (it_all_I cb44 b_high v_ys ys (by first | omega | (simp; done))) ⟨o_cb44, o_high, p_ys⟩ ((fun D A B h hc hd => ⟨obj_ch h.1 hc (fun h => Nat.not_lt.2 (hd _ h) lt_cb44_1), obj_ch h.2.1 hc (fun h => Nat.not_lt.2 (hd _ h) lt_high_1), Rd.ch p_ys (Nat.le_refl _) h.2.2 hc hd⟩)) (by intro x; rfl) (fun K pre A => ∃ (mm : List SpI) (v_cb4_0 : Value), (A.heap[b_low]? = some (.cells [v_xs, (.bool true)].toArray 109 (0, 0))) ∧ (A.heap[b_high]? = some (.cells [v_ys, (.bool true)].toArray 109 (0, 0))) ∧ (A.heap[cb4]? = some (.cells [v_cb4_0, (.bool true)].toArray 109 (0, 0))) ∧ (A.heap[b5]? = some (.cells [(.pointer (some ⟨cb4, 0, none⟩))].toArray 41 (0, 0))) ∧ (A.heap[cb22]? = some (.cells [(.pointer (some ⟨b_low, 0, none⟩))].toArray 41 (0, 0))) ∧ (A.heap[w19.heap.size]? = some (.deferred (some []))) ∧ (A.heap[cb44]? = some (.cells [(.pointer (some ⟨b_high, 0, none⟩))].toArray 41 (0, 0))) ∧ (Row A w.heap.size 41 1 encPtr (.slice (some ⟨b10, 0, none⟩) 2 2) ([some b_low, some b_high] : List (Option Nat))) ∧ (∀ g, Value.ownBlock (.slice (some ⟨b10, 0, none⟩) 2 2) = some g → ¬ Iv w41.heap.size K g) ∧ (Row A w.heap.size 113 3 encSpanI v_cb4_0 mm) ∧ (∀ g, Value.ownBlock v_cb4_0 = some g → ¬ Iv w41.heap.size K g) ∧ (Below w.heap.size w A) ∧ (mm = layAll eqI (layAll eqI [] xs) pre) ∧ (RiseG 0 mm)) (fun K c pre A => False) ?_ ?_ ?_ ?_ ?_ ?_
    · intro A hA
      exact ⟨m, v_cb4_0, obj_below o_low hA, obj_below o_high hA, obj_below o_cb4 hA, obj_below o_x5 hA, obj_below o_cb22 hA, obj_below o_D0 hA, obj_below o_cb44 hA, r_b10.below hA, nr_old r_b10 _, r_cb4_0.below hA, nr_old r_cb4_0 _, hb.trans (hA.mono hs), by exact r1, by exact r2⟩
    · rintro K pre A B ⟨mm, v_cb4_0, o_low, o_high, o_cb4, o_x5, o_cb22, o_D0, o_cb44, r_b10, nr_r_b10, r_cb4_0, nr_r_cb4_0, hb, s1, s2⟩ hc
      exact ⟨mm, v_cb4_0, obj_ch o_low hc (fun h => Nat.not_lt.2 h.1 lt_low_1), obj_ch o_high hc (fun h => Nat.not_lt.2 h.1 lt_high_1), obj_ch o_cb4 hc (fun h => Nat.not_lt.2 h.1 lt_cb4_1), obj_ch o_x5 hc (fun h => Nat.not_lt.2 h.1 lt_x5_1), obj_ch o_cb22 hc (fun h => Nat.not_lt.2 h.1 lt_cb22_1), obj_ch o_D0 hc (fun h => Nat.not_lt.2 h.1 lt_D0_1), obj_ch o_cb44 hc (fun h => Nat.not_lt.2 h.1 lt_cb44_1), r_b10.ch hc nr_r_b10, nr_r_b10, r_cb4_0.ch hc nr_r_cb4_0, nr_r_cb4_0, hc.below hb hb.size (fun k h => Nat.le_trans hs_1 h.1), s1, s2⟩
    · intro K c _ A B h hc; exact h.elim
    · intro l K pre x A hi hN hK0 hK hpre
      obtain ⟨mm, v_cb4_0, o_low, o_high, o_cb4, o_x5, o_cb22, o_D0, o_cb44, r_b10, nr_r_b10, r_cb4_0, nr_r_cb4_0, hb, s1, s2⟩ := hi
      have hs := hb.size
      have hk := Kp.refl (w41.heap.size) K A
      have nv_low : ¬ Iv (w41.heap.size) K b_low := fun h => Nat.not_lt.2 h.1 lt_low_1
      have nv_high : ¬ Iv (w41.heap.size) K b_high := fun h => Nat.not_lt.2 h.1 lt_high_1
      have nv_cb4 : ¬ Iv (w41.heap.size) K cb4 := fun h => Nat.not_lt.2 h.1 lt_cb4_1
      have nv_x5 : ¬ Iv (w41.heap.size) K b5 := fun h => Nat.not_lt.2 h.1 lt_x5_1
      have nv_cb22 : ¬ Iv (w41.heap.size) K cb22 := fun h => Nat.not_lt.2 h.1 lt_cb22_1
      have nv_D0 : ¬ Iv (w41.heap.size) K w19.heap.size := fun h => Nat.not_lt.2 h.1 lt_D0_1
      have nv_cb44 : ¬ Iv (w41.heap.size) K cb44 := fun h => Nat.not_lt.2 h.1 lt_cb44_1
      have p_xs := in_p_xs.below hb
      have p_ys := in_p_ys.below hb
      replace o_cb44 := hN.1
      replace o_high := hN.2.1
      have hx := hry.pre hpre
      refine W_seq (W_region (L_new (fun b => .pointer (some ⟨b, 0, none⟩)) (.cells [(.int .i32 0), (.int .i32 0)].toArray 29 (0, 0)) (by kernel_rfl) (by kernel_rfl) ?_))
      intro b45 w46 hN47
      have ne_low_x8 : b_low ≠ b45 := by have := (obj_lt o_low); have := hN47.num; omega
      have ne_x8_low := ne_low_x8.symm
      have ne_high_x8 : b_high ≠ b45 := by have := (obj_lt o_high); have := hN47.num; omega
      have ne_x8_high := ne_high_x8.symm
      have ne_cb4_x8 : cb4 ≠ b45 := by have := (obj_lt o_cb4); have := hN47.num; omega
      have ne_x8_cb4 := ne_cb4_x8.symm
      have ne_x5_x8 : b5 ≠ b45 := by have := (obj_lt o_x5); have := hN47.num; omega
      have ne_x8_x5 := ne_x5_x8.symm
      have ne_cb22_x8 : cb22 ≠ b45 := by have := (obj_lt o_cb22); have := hN47.num; omega
      have ne_x8_cb22 := ne_cb22_x8.symm
      have ne_D0_x8 : w19.heap.size ≠ b45 := by have := (obj_lt o_D0); have := hN47.num; omega
      have ne_x8_D0 := ne_D0_x8.symm
      have ne_cb44_x8 : cb44 ≠ b45 := by have := (obj_lt o_cb44); have := hN47.num; omega
      have ne_x8_cb44 := ne_cb44_x8.symm
      have g_x8 : w.heap.size ≤ b45 := by rw [hN47.num]; exact hs
      have nv_x8 : ¬ Iv w41.heap.size K b45 := fun h => by have := h.2; have := hN47.num; omega
      replace hb := hb.trans (hN47.below.mono hs)
      replace hk := hk.ch (Ch.of_below hN47.below) hK (fun _ h => h.elim)
      replace hK := Nat.le_trans hK (hN47.below.size)
      replace hs := Nat.le_trans hs (hN47.below.size)
      replace o_low := obj_below o_low hN47.below
      replace o_high := obj_below o_high hN47.below
      replace o_cb4 := obj_below o_cb4 hN47.below
      replace o_x5 := obj_below o_x5 hN47.below
      replace o_cb22 := obj_below o_cb22 hN47.below
      replace o_D0 := obj_below o_D0 hN47.below
      replace o_cb44 := obj_below o_cb44 hN47.below
      replace p_xs := p_xs.below hN47.below
      replace p_ys := p_ys.below hN47.below
      replace r_b10 := r_b10.below hN47.below
      replace r_cb4_0 := r_cb4_0.below hN47.below
      have o_x8 := hN47.here
      refine L_storeA b45 0 [(.int .i32 x.1), (.int .i32 x.2.1)] [(.int .i32 0), (.int .i32 0)] [(.int .i32 x.1), (.int .i32 x.2.1)] 29 (by kernel_rfl) (by kernel_rfl) rfl (by kernel_rfl) o_x8 (by kernel_rfl) rfl ?_
      intro w48 hW49
      replace hb := hb.trans (hW49.below g_x8)
      replace hk := hk.ch (Ch.of_wrote hW49) hK (fun k e h => nv_x8 (e ▸ h))
      replace hK := Nat.le_trans hK (Nat.le_of_eq hW49.size.symm)
      replace hs := Nat.le_trans hs (Nat.le_of_eq hW49.size.symm)
      have n_o_low := obj_wrote o_low hW49 (obj_ne o_low o_x8 (by simp))
      have n_o_high := obj_wrote o_high hW49 (obj_ne o_high o_x8 (by simp))
      have n_o_cb4 := obj_wrote o_cb4 hW49 (obj_ne o_cb4 o_x8 (by simp))
      have n_o_x5 := obj_wrote o_x5 hW49 (obj_ne o_x5 o_x8 (by simp))
      have n_o_cb22 := obj_wrote o_cb22 hW49 (obj_ne o_cb22 o_x8 (by simp))
      have n_o_D0 := obj_wrote o_D0 hW49 (obj_ne o_D0 o_x8 (by simp))
      have n_o_cb44 := obj_wrote o_cb44 hW49 (obj_ne o_cb44 o_x8 (by simp))
      have n_p_xs := in_p_xs.below hb
      have n_p_ys := in_p_ys.below hb
      have n_r_b10 := r_b10.wrote hW49 (r_b10.ne o_x8 (by simp))
      have n_r_cb4_0 := r_cb4_0.wrote hW49 (r_cb4_0.ne o_x8 (by simp))
      replace o_low := n_o_low; clear n_o_low
      replace o_high := n_o_high; clear n_o_high
      replace o_cb4 := n_o_cb4; clear n_o_cb4
      replace o_x5 := n_o_x5; clear n_o_x5
      replace o_cb22 := n_o_cb22; clear n_o_cb22
      replace o_D0 := n_o_D0; clear n_o_D0
      replace o_cb44 := n_o_cb44; clear n_o_cb44
      replace p_xs := n_p_xs; clear n_p_xs
      replace p_ys := n_p_ys; clear n_p_ys
      replace r_b10 := n_r_b10; clear n_r_b10
      replace r_cb4_0 := n_r_cb4_0; clear n_r_cb4_0
      replace o_x8 := hW49.here
      refine L_nil (thenQ_normal (W_region (L_as (L_nil ?_))))
      refine thenQ_normal ⟨hk, ?_⟩
      intro w50 hc51
      replace o_low := obj_ch o_low hc51 nv_low
      replace o_high := obj_ch o_high hc51 nv_high
      replace o_cb4 := obj_ch o_cb4 hc51 nv_cb4
      replace o_x5 := obj_ch o_x5 hc51 nv_x5
      replace o_cb22 := obj_ch o_cb22 hc51 nv_cb22
      replace o_D0 := obj_ch o_D0 hc51 nv_D0
      replace o_cb44 := obj_ch o_cb44 hc51 nv_cb44
      replace o_x8 := obj_ch o_x8 hc51 nv_x8
      replace r_b10 := r_b10.ch hc51 nr_r_b10
      replace r_cb4_0 := r_cb4_0.ch hc51 nr_r_cb4_0
      replace hb := hc51.below hb hs (fun k h => Nat.le_trans hs_1 h.1)
      replace p_xs := in_p_xs.below hb
      replace p_ys := in_p_ys.below hb
      replace hs := hb.size
      replace hK := Nat.le_trans hK hc51.size
      replace hk := Kp.refl (w41.heap.size) K w50
      refine W_block (W_region (L_load b5 0 (.pointer (some ⟨cb4, 0, none⟩)) (by kernel_rfl) (by kernel_rfl) (cell_obj o_x5 rfl) (L_loadA b45 0 [(.int .i32 x.1), (.int .i32 x.2.1)] (by kernel_rfl) (by kernel_rfl) (by kernel_rfl) (cells_at o_x8 0 (by kernel_rfl)) (L_mv (L_call 16 [(.pointer (some ⟨cb4, 0, none⟩)), (Value.agg #[(.int .i32 x.1), (.int .i32 x.2.1)]), (.int .i64 x.2.2)] (by kernel_rfl) (by kernel_rfl) (c_lay_I cb4 v_cb4_0 mm x.1 x.2.1 x.2.2 w.heap.size _ hs o_cb4 g_cb4 r_cb4_0 (by first | exact s2 | exact r2 | trivial) (by first | omega | (simp; done)) (by first | omega | (simp; done))) ?_)))))
      rintro _ w53 ⟨q52, rfl, ho56, r_q52, dm54, hC55⟩
      have hnk : ∀ k, Dm cb4 v_cb4_0 k → ¬ Iv (w41.heap.size) K k := fun k e => e.elim (fun x => by rw [x]; exact nv_cb4) (fun x => nr_r_cb4_0 k x)
      have nr_r_q52 : ∀ g, Value.ownBlock q52 = some g → ¬ Iv (w41.heap.size) K g := fun g hg => (dm54 g hg).elim (fun x y => by have := y.2; omega) (fun e => hnk g e)
      replace hk := hk.ch hC55 hK hnk
      replace hK := Nat.le_trans hK hC55.size
      replace hb := hC55.below hb hs (fun k e => e.elim (fun x => x ▸ g_cb4) (fun x => (World.ownsRow.lt r_cb4_0 k x).1))
      replace hs := Nat.le_trans hs hC55.size
      have n_o_low := obj_ch_mut o_low hC55 ne_low_cb4 (r_cb4_0.ne o_low (by simp))
      have n_o_high := obj_ch_mut o_high hC55 ne_high_cb4 (r_cb4_0.ne o_high (by simp))
      have n_o_x5 := obj_ch_mut o_x5 hC55 (obj_ne o_x5 o_cb4 (by simp)) (r_cb4_0.ne o_x5 (by simp))
      have n_o_cb22 := obj_ch_mut o_cb22 hC55 (obj_ne o_cb22 o_cb4 (by simp)) (r_cb4_0.ne o_cb22 (by simp))
      have n_o_D0 := obj_ch_mut o_D0 hC55 (obj_ne o_D0 o_cb4 (by simp)) (r_cb4_0.ne o_D0 (by simp))
      have n_o_cb44 := obj_ch_mut o_cb44 hC55 (obj_ne o_cb44 o_cb4 (by simp)) (r_cb4_0.ne o_cb44 (by simp))
      have n_o_x8 := obj_ch_mut o_x8 hC55 (obj_ne o_x8 o_cb4 (by simp)) (r_cb4_0.ne o_x8 (by simp))
      have n_p_xs := in_p_xs.below hb
      have n_p_ys := in_p_ys.below hb
      have n_r_b10 := r_b10.ch_mut hC55 (r_b10.ne o_cb4 (by simp)) (r_b10.apart r_cb4_0 (by kernel_rfl))
      replace o_low := n_o_low; clear n_o_low
      replace o_high := n_o_high; clear n_o_high
      replace o_x5 := n_o_x5; clear n_o_x5
      replace o_cb22 := n_o_cb22; clear n_o_cb22
      replace o_D0 := n_o_D0; clear n_o_D0
      replace o_cb44 := n_o_cb44; clear n_o_cb44
      replace o_x8 := n_o_x8; clear n_o_x8
      replace p_xs := n_p_xs; clear n_p_xs
      replace p_ys := n_p_ys; clear n_p_ys
      replace r_b10 := n_r_b10; clear n_r_b10
      replace o_cb4 := ho56
      refine L_nil (blkQ_normal ?_)
      refine round_normal hk ⟨o_cb44, o_high, p_ys⟩ ⟨(layF eqI mm x.1 x.2.1 x.2.2), q52, o_low, o_high, o_cb4, o_x5, o_cb22, o_D0, o_cb44, r_b10, nr_r_b10, r_q52, nr_r_q52, hb, ?_, ?_⟩
      · rw [s1]; exact (layAll_snoc _ _ _).symm
      · exact layF_rise s2
    · intro K A hi hsz o_D1
      obtain ⟨mm, v_cb4_0, o_low, o_high, o_cb4, o_x5, o_cb22, o_D0, o_cb44, r_b10, nr_r_b10, r_cb4_0, nr_r_cb4_0, hb, s1, s2⟩ := hi
      have p_xs := in_p_xs.below hb
      have p_ys := in_p_ys.below hb
      have ne_low_D1 : b_low ≠ w41.heap.size := Nat.ne_of_lt lt_low_1
      have ne_D1_low := ne_low_D1.symm
      have ne_high_D1 : b_high ≠ w41.heap.size := Nat.ne_of_lt lt_high_1
      have ne_D1_high := ne_high_D1.symm
      have ne_cb4_D1 : cb4 ≠ w41.heap.size := Nat.ne_of_lt lt_cb4_1
      have ne_D1_cb4 := ne_cb4_D1.symm
      have ne_x5_D1 : b5 ≠ w41.heap.size := Nat.ne_of_lt lt_x5_1
      have ne_D1_x5 := ne_x5_D1.symm
      have ne_cb22_D1 : cb22 ≠ w41.heap.size := Nat.ne_of_lt lt_cb22_1
      have ne_D1_cb22 := ne_cb22_D1.symm
      have ne_D0_D1 : w19.heap.size ≠ w41.heap.size := Nat.ne_of_lt lt_D0_1
      have ne_D1_D0 := ne_D0_D1.symm
      have ne_cb44_D1 : cb44 ≠ w41.heap.size := Nat.ne_of_lt lt_cb44_1
      have ne_D1_cb44 := ne_cb44_D1.symm
      have hs : w.heap.size ≤ _ := hb.size
      refine blkQ_normal (blkQ_normal (thenQ_normal (W_region (L_addN 1 1 (by omega) (by kernel_rfl) (by kernel_rfl) (L_mv (L_nil (thenQ_round (W_seq (W_region (L_run (.bool false) (by kernel_rfl) (by kernel_rfl) (L_nil (thenQ_normal (W_seq (W_false (by kernel_rfl) (W_exit (thenQ_exit (thenQ_exit (blkQ_exit (thenQ_normal (W_seq (W_region (L_load b5 0 (.pointer (some ⟨cb4, 0, none⟩)) (by kernel_rfl) (by kernel_rfl) (cell_obj o_x5 rfl) (L_as (L_nil (thenQ_normal (W_ret (end_retM (ds := [⟨.collected w41.heap.size, #[]⟩, ⟨.collected w19.heap.size, #[]⟩]) (by kernel_rfl) (Lv_mark o_D1 ?_))))))))))))))))))))))))))))
      intro w57 hW58
      replace hb := hb.trans (hW58.below hs_1)
      replace hs := Nat.le_trans hs (Nat.le_of_eq hW58.size.symm)
      have n_o_low := obj_wrote o_low hW58 (obj_ne o_low o_D1 (by simp))
      have n_o_high := obj_wrote o_high hW58 (obj_ne o_high o_D1 (by simp))
      have n_o_cb4 := obj_wrote o_cb4 hW58 (obj_ne o_cb4 o_D1 (by simp))
      have n_o_x5 := obj_wrote o_x5 hW58 (obj_ne o_x5 o_D1 (by simp))
      have n_o_cb22 := obj_wrote o_cb22 hW58 (obj_ne o_cb22 o_D1 (by simp))
      have n_o_D0 := obj_wrote o_D0 hW58 ne_D0_D1
      have n_o_cb44 := obj_wrote o_cb44 hW58 (obj_ne o_cb44 o_D1 (by simp))
      have n_p_xs := in_p_xs.below hb
      have n_p_ys := in_p_ys.below hb
      have n_r_b10 := r_b10.wrote hW58 (r_b10.ne o_D1 (by simp))
      have n_r_cb4_0 := r_cb4_0.wrote hW58 (r_cb4_0.ne o_D1 (by simp))
      replace o_low := n_o_low; clear n_o_low
      replace o_high := n_o_high; clear n_o_high
      replace o_cb4 := n_o_cb4; clear n_o_cb4
      replace o_x5 := n_o_x5; clear n_o_x5
      replace o_cb22 := n_o_cb22; clear n_o_cb22
      replace o_D0 := n_o_D0; clear n_o_D0
      replace o_cb44 := n_o_cb44; clear n_o_cb44
      replace p_xs := n_p_xs; clear n_p_xs
      replace p_ys := n_p_ys; clear n_p_ys
      replace r_b10 := n_r_b10; clear n_r_b10
      replace r_cb4_0 := n_r_cb4_0; clear n_r_cb4_0
      replace o_D1 := hW58.here
      refine Lv_mark o_D0 ?_
      intro w59 hW60
      replace hb := hb.trans (hW60.below hs_0)
      replace hs := Nat.le_trans hs (Nat.le_of_eq hW60.size.symm)
      have n_o_low := obj_wrote o_low hW60 (obj_ne o_low o_D0 (by simp))
      have n_o_high := obj_wrote o_high hW60 (obj_ne o_high o_D0 (by simp))
      have n_o_cb4 := obj_wrote o_cb4 hW60 (obj_ne o_cb4 o_D0 (by simp))
      have n_o_x5 := obj_wrote o_x5 hW60 (obj_ne o_x5 o_D0 (by simp))
      have n_o_cb22 := obj_wrote o_cb22 hW60 (obj_ne o_cb22 o_D0 (by simp))
      have n_o_cb44 := obj_wrote o_cb44 hW60 (obj_ne o_cb44 o_D0 (by simp))
      have n_o_D1 := obj_wrote o_D1 hW60 (obj_ne o_D1 o_D0 (by simp))
      have n_p_xs := in_p_xs.below hb
      have n_p_ys := in_p_ys.below hb
      have n_r_b10 := r_b10.wrote hW60 (r_b10.ne o_D0 (by simp))
      have n_r_cb4_0 := r_cb4_0.wrote hW60 (r_cb4_0.ne o_D0 (by simp))
      replace o_low := n_o_low; clear n_o_low
      replace o_high := n_o_high; clear n_o_high
      replace o_cb4 := n_o_cb4; clear n_o_cb4
      replace o_x5 := n_o_x5; clear n_o_x5
      replace o_cb22 := n_o_cb22; clear n_o_cb22
      replace o_cb44 := n_o_cb44; clear n_o_cb44
      replace o_D1 := n_o_D1; clear n_o_D1
      replace p_xs := n_p_xs; clear n_p_xs
      replace p_ys := n_p_ys; clear n_p_ys
      replace r_b10 := n_r_b10; clear n_r_b10
      replace r_cb4_0 := n_r_cb4_0; clear n_r_cb4_0
      replace o_D0 := hW60.here
      refine Lv_nil [.tmp 4] [(.pointer (some ⟨cb4, 0, none⟩))] rfl ⟨by kernel_rfl, trivial⟩ ?_
      have e51 : mm = (overF eqI xs ys) := by first | exact s1 | rfl
      exact ⟨v_cb4_0, cb4, rfl, r_cb4_0.cast e51, o_cb4, g_cb4, hb⟩
    · intro K c _ x A _ h; exact h.elim
  · intro K c _ x A _ h; exact h.elim

set_option maxHeartbeats 4000000 in
set_option maxRecDepth 100000 in
theorem c_over_nl_I (b_high : Nat) (v_ys : Value) (ys : List (Int × Int × Int)) (w : World) (o_high : w.heap[b_high]? = some (.cells [v_ys, (.bool true)].toArray 109 (0, 0))) (p_ys : Rd w encSpanI v_ys ys) (hry : RiseG 0 ys) :
    Calls Try.prog 29 #[(.pointer none), (.pointer (some ⟨b_high, 0, none⟩))] w (Ret fun v w' => ∃ (q0 : Value) (cb0 : Nat), v = (.pointer (some ⟨cb0, 0, none⟩)) ∧ Row w' w.heap.size 113 3 encSpanI q0 (overF eqI ([] : List SpI) ys) ∧ w'.heap[cb0]? = some (.cells [q0, (.bool true)].toArray 109 (0, 0)) ∧ w.heap.size ≤ cb0 ∧ Below w.heap.size w w') := by
  refine enterM (args := [(.pointer none), (.pointer (some ⟨b_high, 0, none⟩))]) Try.func29 rfl (by kernel_rfl : _ = 29) (by kernel_rfl) ?_
  have hb := Below.refl w.heap.size w
  have hs : w.heap.size ≤ w.heap.size := Nat.le_refl _
  have in_p_ys := p_ys
  have hrx : RiseG 0 ([] : List SpI) := trivial
  have hlhry := hry.len
  refine W_seq (W_region (L_as (L_nil (thenQ_normal (W_seq (W_region (L_call 14 [] (by kernel_rfl) (by kernel_rfl) (c_new_I  _ ) ?_)))))))
  rintro _ w1 ⟨cb4, rfl, o_cb4, g_cb4, hB2⟩
  have ne_high_cb4 : b_high ≠ cb4 := by have := (obj_lt o_high); omega
  have ne_cb4_high := ne_high_cb4.symm
  replace g_cb4 := Nat.le_trans hs g_cb4
  replace hb := hb.trans (hB2.mono hs)
  replace hs := Nat.le_trans hs (hB2.size)
  replace o_high := obj_below o_high hB2
  replace p_ys := p_ys.below hB2
  refine L_new (fun b => .pointer (some ⟨b, 0, none⟩)) (.cells [(.pointer none)].toArray 41 (0, 0)) (by kernel_rfl) (by kernel_rfl) ?_
  intro b5 w6 hN7
  have ne_high_x5 : b_high ≠ b5 := by have := (obj_lt o_high); have := hN7.num; omega
  have ne_x5_high := ne_high_x5.symm
  have ne_cb4_x5 : cb4 ≠ b5 := by have := (obj_lt o_cb4); have := hN7.num; omega
  have ne_x5_cb4 := ne_cb4_x5.symm
  have g_x5 : w.heap.size ≤ b5 := by rw [hN7.num]; exact hs
  replace hb := hb.trans (hN7.below.mono hs)
  replace hs := Nat.le_trans hs (hN7.below.size)
  replace o_high := obj_below o_high hN7.below
  replace o_cb4 := obj_below o_cb4 hN7.below
  replace p_ys := p_ys.below hN7.below
  have o_x5 := hN7.here
  refine L_store b5 0 (.pointer (some ⟨cb4, 0, none⟩)) [(.pointer none)] [(.pointer (some ⟨cb4, 0, none⟩))] 41 (by kernel_rfl) (by kernel_rfl) rfl (by kernel_rfl) o_x5 (by simp) rfl ?_
  intro w8 hW9
  replace hb := hb.trans (hW9.below g_x5)
  replace hs := Nat.le_trans hs (Nat.le_of_eq hW9.size.symm)
  have n_o_high := obj_wrote o_high hW9 (obj_ne o_high o_x5 (by simp))
  have n_o_cb4 := obj_wrote o_cb4 hW9 (obj_ne o_cb4 o_x5 (by simp))
  have n_p_ys := in_p_ys.below hb
  replace o_high := n_o_high; clear n_o_high
  replace o_cb4 := n_o_cb4; clear n_o_cb4
  replace p_ys := n_p_ys; clear n_p_ys
  replace o_x5 := hW9.here
  refine L_nil (thenQ_normal (W_seq (W_seq (W_region (L_mv (L_mv (L_new (fun b => .slice (some ⟨b, 0, none⟩) 2 2) (.cells [(.pointer none), (.pointer (some ⟨b_high, 0, none⟩))].toArray 41 (0, 0)) (by kernel_rfl) (by kernel_rfl) ?_)))))))
  intro b10 w11 hN12
  have g_b10 : w.heap.size ≤ b10 := by rw [hN12.num]; exact hs
  replace hb := hb.trans (hN12.below.mono hs)
  replace hs := Nat.le_trans hs (hN12.below.size)
  replace o_high := obj_below o_high hN12.below
  replace o_cb4 := obj_below o_cb4 hN12.below
  replace o_x5 := obj_below o_x5 hN12.below
  replace p_ys := p_ys.below hN12.below
  have r_b10 : Row w11 w.heap.size 41 1 encPtr (.slice (some ⟨b10, 0, none⟩) 2 2) ([none, some b_high] : List (Option Nat)) := Row.made ([none, some b_high] : List (Option Nat)) hN12 g_b10 rfl rfl (by first | decide | (simp; done))
  refine L_len 133 41 2 (.slice (some ⟨b10, 0, none⟩) 2 2) rfl Try.underlying133 (r_b10.rd).len (by kernel_rfl) (L_mv (L_nil (thenQ_normal (W_block (W_unroll 2 (W_seq (W_region (L_run (.bool true) (by kernel_rfl) (by kernel_rfl) (L_nil (thenQ_normal (W_seq (W_true (by kernel_rfl) (W_skip (thenQ_normal (W_seq (W_block (W_seq (W_region ?_))))))))))))))))))
  have hx14 : ([none, some b_high] : List (Option Nat))[0]? = some (none) := rfl
  have hz := (r_b10.rd).at (k := 1) (fun _ => rfl) hx14
  obtain ⟨g15, off16, hl17, hc18⟩ := hz
  refine L_ixaddr (k := .i64) (.slice (some ⟨b10, 0, none⟩) 2 2) 0 _ g15 off16 el133 hl17 (by first | omega | (simp; done)) (by kernel_rfl) (by kernel_rfl) (L_load g15 (off16 + 0 * 1) (.pointer none) (by kernel_rfl) (by kernel_rfl) (hc18 0 _ rfl) (L_as (L_nil (thenQ_normal (W_seq (W_region (L_mv (L_call 61 [(.pointer none)] (by kernel_rfl) (by kernel_rfl) (c_all_nil_I  _ ) ?_))))))))
  rintro _ w19 ⟨cb22, rfl, o_cb22, g_cb22, hB20⟩
  have ne_high_cb22 : b_high ≠ cb22 := by have := (obj_lt o_high); omega
  have ne_cb22_high := ne_high_cb22.symm
  have ne_cb4_cb22 : cb4 ≠ cb22 := by have := (obj_lt o_cb4); omega
  have ne_cb22_cb4 := ne_cb4_cb22.symm
  have ne_x5_cb22 : b5 ≠ cb22 := by have := (obj_lt o_x5); omega
  have ne_cb22_x5 := ne_x5_cb22.symm
  have nb_o_cb22_r_b10 := Row.nb_ge r_b10 g_cb22
  replace g_cb22 := Nat.le_trans hs g_cb22
  replace hb := hb.trans (hB20.mono hs)
  replace hs := Nat.le_trans hs (hB20.size)
  replace o_high := obj_below o_high hB20
  replace o_cb4 := obj_below o_cb4 hB20
  replace o_x5 := obj_below o_x5 hB20
  replace p_ys := p_ys.below hB20
  replace r_b10 := r_b10.below hB20
  refine L_nil (thenQ_normal (W_block ?_))
  have lt_high_0 : b_high < w19.heap.size := obj_lt o_high
  have lt_cb4_0 : cb4 < w19.heap.size := obj_lt o_cb4
  have lt_x5_0 : b5 < w19.heap.size := obj_lt o_x5
  have lt_cb22_0 : cb22 < w19.heap.size := obj_lt o_cb22
  have hs_0 := hs
  have hb_0 := hb
  refine W_range 103 [(.pointer (some ⟨cb22, 0, none⟩))] ([] : List SpI) (by kernel_rfl) (fun _ _ => rfl) (it_all_nil_I cb22 ) o_cb22 ((fun D A B h hc hd => obj_ch h hc (fun h => Nat.not_lt.2 (hd _ h) lt_cb22_0))) (by intro x; rfl) (fun K pre A => ∃ (m : List SpI) (v_cb4_0 : Value), (A.heap[b_high]? = some (.cells [v_ys, (.bool true)].toArray 109 (0, 0))) ∧ (A.heap[cb4]? = some (.cells [v_cb4_0, (.bool true)].toArray 109 (0, 0))) ∧ (A.heap[b5]? = some (.cells [(.pointer (some ⟨cb4, 0, none⟩))].toArray 41 (0, 0))) ∧ (A.heap[cb22]? = some (.cells [(.pointer none)].toArray 41 (0, 0))) ∧ (Row A w.heap.size 41 1 encPtr (.slice (some ⟨b10, 0, none⟩) 2 2) ([none, some b_high] : List (Option Nat))) ∧ (∀ g, Value.ownBlock (.slice (some ⟨b10, 0, none⟩) 2 2) = some g → ¬ Iv w19.heap.size K g) ∧ (Row A w.heap.size 113 3 encSpanI v_cb4_0 m) ∧ (∀ g, Value.ownBlock v_cb4_0 = some g → ¬ Iv w19.heap.size K g) ∧ (Below w.heap.size w A) ∧ (m = layAll eqI [] pre) ∧ (RiseG 0 m)) (fun K c pre A => False) ?_ ?_ ?_ ?_ ?_ ?_
  · intro A hA
    exact ⟨[], (.slice none 0 0), obj_below o_high hA, obj_below o_cb4 hA, obj_below o_x5 hA, obj_below o_cb22 hA, r_b10.below hA, nr_old r_b10 _, Row.nil _ _ _ _ _, nr_nil _ _, hb.trans (hA.mono hs), by rfl, by trivial⟩
  · rintro K pre A B ⟨m, v_cb4_0, o_high, o_cb4, o_x5, o_cb22, r_b10, nr_r_b10, r_cb4_0, nr_r_cb4_0, hb, r1, r2⟩ hc
    exact ⟨m, v_cb4_0, obj_ch o_high hc (fun h => Nat.not_lt.2 h.1 lt_high_0), obj_ch o_cb4 hc (fun h => Nat.not_lt.2 h.1 lt_cb4_0), obj_ch o_x5 hc (fun h => Nat.not_lt.2 h.1 lt_x5_0), obj_ch o_cb22 hc (fun h => Nat.not_lt.2 h.1 lt_cb22_0), r_b10.ch hc nr_r_b10, nr_r_b10, r_cb4_0.ch hc nr_r_cb4_0, nr_r_cb4_0, hc.below hb hb.size (fun k h => Nat.le_trans hs_0 h.1), r1, r2⟩
  · intro K c _ A B h hc; exact h.elim
  · intro l K pre x A hi hN hK0 hK hpre
    obtain ⟨m, v_cb4_0, o_high, o_cb4, o_x5, o_cb22, r_b10, nr_r_b10, r_cb4_0, nr_r_cb4_0, hb, r1, r2⟩ := hi
    have hs := hb.size
    have hk := Kp.refl (w19.heap.size) K A
    have nv_high : ¬ Iv (w19.heap.size) K b_high := fun h => Nat.not_lt.2 h.1 lt_high_0
    have nv_cb4 : ¬ Iv (w19.heap.size) K cb4 := fun h => Nat.not_lt.2 h.1 lt_cb4_0
    have nv_x5 : ¬ Iv (w19.heap.size) K b5 := fun h => Nat.not_lt.2 h.1 lt_x5_0
    have nv_cb22 : ¬ Iv (w19.heap.size) K cb22 := fun h => Nat.not_lt.2 h.1 lt_cb22_0
    have p_ys := in_p_ys.below hb
    replace o_cb22 := hN
    have hx := hrx.pre hpre
    refine W_seq (W_region (L_new (fun b => .pointer (some ⟨b, 0, none⟩)) (.cells [(.int .i32 0), (.int .i32 0)].toArray 29 (0, 0)) (by kernel_rfl) (by kernel_rfl) ?_))
    intro b23 w24 hN25
    have ne_high_x8 : b_high ≠ b23 := by have := (obj_lt o_high); have := hN25.num; omega
    have ne_x8_high := ne_high_x8.symm
    have ne_cb4_x8 : cb4 ≠ b23 := by have := (obj_lt o_cb4); have := hN25.num; omega
    have ne_x8_cb4 := ne_cb4_x8.symm
    have ne_x5_x8 : b5 ≠ b23 := by have := (obj_lt o_x5); have := hN25.num; omega
    have ne_x8_x5 := ne_x5_x8.symm
    have ne_cb22_x8 : cb22 ≠ b23 := by have := (obj_lt o_cb22); have := hN25.num; omega
    have ne_x8_cb22 := ne_cb22_x8.symm
    have g_x8 : w.heap.size ≤ b23 := by rw [hN25.num]; exact hs
    have nv_x8 : ¬ Iv w19.heap.size K b23 := fun h => by have := h.2; have := hN25.num; omega
    replace hb := hb.trans (hN25.below.mono hs)
    replace hk := hk.ch (Ch.of_below hN25.below) hK (fun _ h => h.elim)
    replace hK := Nat.le_trans hK (hN25.below.size)
    replace hs := Nat.le_trans hs (hN25.below.size)
    replace o_high := obj_below o_high hN25.below
    replace o_cb4 := obj_below o_cb4 hN25.below
    replace o_x5 := obj_below o_x5 hN25.below
    replace o_cb22 := obj_below o_cb22 hN25.below
    replace p_ys := p_ys.below hN25.below
    replace r_b10 := r_b10.below hN25.below
    replace r_cb4_0 := r_cb4_0.below hN25.below
    have o_x8 := hN25.here
    refine L_storeA b23 0 [(.int .i32 x.1), (.int .i32 x.2.1)] [(.int .i32 0), (.int .i32 0)] [(.int .i32 x.1), (.int .i32 x.2.1)] 29 (by kernel_rfl) (by kernel_rfl) rfl (by kernel_rfl) o_x8 (by kernel_rfl) rfl ?_
    intro w26 hW27
    replace hb := hb.trans (hW27.below g_x8)
    replace hk := hk.ch (Ch.of_wrote hW27) hK (fun k e h => nv_x8 (e ▸ h))
    replace hK := Nat.le_trans hK (Nat.le_of_eq hW27.size.symm)
    replace hs := Nat.le_trans hs (Nat.le_of_eq hW27.size.symm)
    have n_o_high := obj_wrote o_high hW27 (obj_ne o_high o_x8 (by simp))
    have n_o_cb4 := obj_wrote o_cb4 hW27 (obj_ne o_cb4 o_x8 (by simp))
    have n_o_x5 := obj_wrote o_x5 hW27 (obj_ne o_x5 o_x8 (by simp))
    have n_o_cb22 := obj_wrote o_cb22 hW27 (obj_ne o_cb22 o_x8 (by simp))
    have n_p_ys := in_p_ys.below hb
    have n_r_b10 := r_b10.wrote hW27 (r_b10.ne o_x8 (by simp))
    have n_r_cb4_0 := r_cb4_0.wrote hW27 (r_cb4_0.ne o_x8 (by simp))
    replace o_high := n_o_high; clear n_o_high
    replace o_cb4 := n_o_cb4; clear n_o_cb4
    replace o_x5 := n_o_x5; clear n_o_x5
    replace o_cb22 := n_o_cb22; clear n_o_cb22
    replace p_ys := n_p_ys; clear n_p_ys
    replace r_b10 := n_r_b10; clear n_r_b10
    replace r_cb4_0 := n_r_cb4_0; clear n_r_cb4_0
    replace o_x8 := hW27.here
    refine L_nil (thenQ_normal (W_region (L_as (L_nil ?_))))
    refine thenQ_normal ⟨hk, ?_⟩
    intro w28 hc29
    replace o_high := obj_ch o_high hc29 nv_high
    replace o_cb4 := obj_ch o_cb4 hc29 nv_cb4
    replace o_x5 := obj_ch o_x5 hc29 nv_x5
    replace o_cb22 := obj_ch o_cb22 hc29 nv_cb22
    replace o_x8 := obj_ch o_x8 hc29 nv_x8
    replace r_b10 := r_b10.ch hc29 nr_r_b10
    replace r_cb4_0 := r_cb4_0.ch hc29 nr_r_cb4_0
    replace hb := hc29.below hb hs (fun k h => Nat.le_trans hs_0 h.1)
    replace p_ys := in_p_ys.below hb
    replace hs := hb.size
    replace hK := Nat.le_trans hK hc29.size
    replace hk := Kp.refl (w19.heap.size) K w28
    refine W_block (W_region (L_load b5 0 (.pointer (some ⟨cb4, 0, none⟩)) (by kernel_rfl) (by kernel_rfl) (cell_obj o_x5 rfl) (L_loadA b23 0 [(.int .i32 x.1), (.int .i32 x.2.1)] (by kernel_rfl) (by kernel_rfl) (by kernel_rfl) (cells_at o_x8 0 (by kernel_rfl)) (L_mv (L_call 16 [(.pointer (some ⟨cb4, 0, none⟩)), (Value.agg #[(.int .i32 x.1), (.int .i32 x.2.1)]), (.int .i64 x.2.2)] (by kernel_rfl) (by kernel_rfl) (c_lay_I cb4 v_cb4_0 m x.1 x.2.1 x.2.2 w.heap.size _ hs o_cb4 g_cb4 r_cb4_0 (by first | exact s2 | exact r2 | trivial) (by first | omega | (simp; done)) (by first | omega | (simp; done))) ?_)))))
    rintro _ w31 ⟨q30, rfl, ho34, r_q30, dm32, hC33⟩
    have hnk : ∀ k, Dm cb4 v_cb4_0 k → ¬ Iv (w19.heap.size) K k := fun k e => e.elim (fun x => by rw [x]; exact nv_cb4) (fun x => nr_r_cb4_0 k x)
    have nr_r_q30 : ∀ g, Value.ownBlock q30 = some g → ¬ Iv (w19.heap.size) K g := fun g hg => (dm32 g hg).elim (fun x y => by have := y.2; omega) (fun e => hnk g e)
    replace hk := hk.ch hC33 hK hnk
    replace hK := Nat.le_trans hK hC33.size
    replace hb := hC33.below hb hs (fun k e => e.elim (fun x => x ▸ g_cb4) (fun x => (World.ownsRow.lt r_cb4_0 k x).1))
    replace hs := Nat.le_trans hs hC33.size
    have n_o_high := obj_ch_mut o_high hC33 ne_high_cb4 (r_cb4_0.ne o_high (by simp))
    have n_o_x5 := obj_ch_mut o_x5 hC33 (obj_ne o_x5 o_cb4 (by simp)) (r_cb4_0.ne o_x5 (by simp))
    have n_o_cb22 := obj_ch_mut o_cb22 hC33 (obj_ne o_cb22 o_cb4 (by simp)) (r_cb4_0.ne o_cb22 (by simp))
    have n_o_x8 := obj_ch_mut o_x8 hC33 (obj_ne o_x8 o_cb4 (by simp)) (r_cb4_0.ne o_x8 (by simp))
    have n_p_ys := in_p_ys.below hb
    have n_r_b10 := r_b10.ch_mut hC33 (r_b10.ne o_cb4 (by simp)) (r_b10.apart r_cb4_0 (by kernel_rfl))
    replace o_high := n_o_high; clear n_o_high
    replace o_x5 := n_o_x5; clear n_o_x5
    replace o_cb22 := n_o_cb22; clear n_o_cb22
    replace o_x8 := n_o_x8; clear n_o_x8
    replace p_ys := n_p_ys; clear n_p_ys
    replace r_b10 := n_r_b10; clear n_r_b10
    replace o_cb4 := ho34
    refine L_nil (blkQ_normal ?_)
    refine round_normal hk o_cb22 ⟨(layF eqI m x.1 x.2.1 x.2.2), q30, o_high, o_cb4, o_x5, o_cb22, r_b10, nr_r_b10, r_q30, nr_r_q30, hb, ?_, ?_⟩
    · rw [r1]; exact (layAll_snoc _ _ _).symm
    · exact layF_rise r2
  · intro K A hi hsz o_D0
    obtain ⟨m, v_cb4_0, o_high, o_cb4, o_x5, o_cb22, r_b10, nr_r_b10, r_cb4_0, nr_r_cb4_0, hb, r1, r2⟩ := hi
    have p_ys := in_p_ys.below hb
    have ne_high_D0 : b_high ≠ w19.heap.size := Nat.ne_of_lt lt_high_0
    have ne_D0_high := ne_high_D0.symm
    have ne_cb4_D0 : cb4 ≠ w19.heap.size := Nat.ne_of_lt lt_cb4_0
    have ne_D0_cb4 := ne_cb4_D0.symm
    have ne_x5_D0 : b5 ≠ w19.heap.size := Nat.ne_of_lt lt_x5_0
    have ne_D0_x5 := ne_x5_D0.symm
    have ne_cb22_D0 : cb22 ≠ w19.heap.size := Nat.ne_of_lt lt_cb22_0
    have ne_D0_cb22 := ne_cb22_D0.symm
    have hs : w.heap.size ≤ _ := hb.size
    refine blkQ_normal (blkQ_normal (thenQ_normal (W_region (L_addN 0 1 (by omega) (by kernel_rfl) (by kernel_rfl) (L_mv (L_nil (thenQ_round (W_seq (W_region (L_run (.bool true) (by kernel_rfl) (by kernel_rfl) (L_nil (thenQ_normal (W_seq (W_true (by kernel_rfl) (W_skip (thenQ_normal (W_seq (W_block (W_seq (W_region ?_))))))))))))))))))))
    have hx36 : ([none, some b_high] : List (Option Nat))[1]? = some (some b_high) := rfl
    have hz := (r_b10.rd).at (k := 1) (fun _ => rfl) hx36
    obtain ⟨g37, off38, hl39, hc40⟩ := hz
    refine L_ixaddr (k := .i64) (.slice (some ⟨b10, 0, none⟩) 2 2) 1 _ g37 off38 el133 hl39 (by first | omega | (simp; done)) (by kernel_rfl) (by kernel_rfl) (L_load g37 (off38 + 1 * 1) (.pointer (some ⟨b_high, 0, none⟩)) (by kernel_rfl) (by kernel_rfl) (hc40 0 _ rfl) (L_as (L_nil (thenQ_normal (W_seq (W_region (L_mv (L_call 61 [(.pointer (some ⟨b_high, 0, none⟩))] (by kernel_rfl) (by kernel_rfl) (c_all_I b_high v_ys ys _ o_high p_ys) ?_))))))))
    rintro _ w41 ⟨cb44, rfl, o_cb44, g_cb44, hB42⟩
    have ne_high_cb44 : b_high ≠ cb44 := by have := (obj_lt o_high); omega
    have ne_cb44_high := ne_high_cb44.symm
    have ne_cb4_cb44 : cb4 ≠ cb44 := by have := (obj_lt o_cb4); omega
    have ne_cb44_cb4 := ne_cb4_cb44.symm
    have ne_x5_cb44 : b5 ≠ cb44 := by have := (obj_lt o_x5); omega
    have ne_cb44_x5 := ne_x5_cb44.symm
    have ne_cb22_cb44 : cb22 ≠ cb44 := by have := (obj_lt o_cb22); omega
    have ne_cb44_cb22 := ne_cb22_cb44.symm
    have ne_D0_cb44 : w19.heap.size ≠ cb44 := by have := (obj_lt o_D0); omega
    have ne_cb44_D0 := ne_D0_cb44.symm
    have nb_o_cb44_r_b10 := Row.nb_ge r_b10 g_cb44
    replace g_cb44 := Nat.le_trans hs g_cb44
    replace hb := hb.trans (hB42.mono hs)
    replace hs := Nat.le_trans hs (hB42.size)
    replace o_high := obj_below o_high hB42
    replace o_cb4 := obj_below o_cb4 hB42
    replace o_x5 := obj_below o_x5 hB42
    replace o_cb22 := obj_below o_cb22 hB42
    replace o_D0 := obj_below o_D0 hB42
    replace p_ys := p_ys.below hB42
    replace r_b10 := r_b10.below hB42
    replace r_cb4_0 := r_cb4_0.below hB42
    refine L_nil (thenQ_normal (W_block ?_))
    have lt_high_1 : b_high < w41.heap.size := obj_lt o_high
    have lt_cb4_1 : cb4 < w41.heap.size := obj_lt o_cb4
    have lt_x5_1 : b5 < w41.heap.size := obj_lt o_x5
    have lt_cb22_1 : cb22 < w41.heap.size := obj_lt o_cb22
    have lt_D0_1 : w19.heap.size < w41.heap.size := obj_lt o_D0
    have lt_cb44_1 : cb44 < w41.heap.size := obj_lt o_cb44
    have hs_1 := hs
    have hb_1 := hb
    refine W_range 103 [(.pointer (some ⟨cb44, 0, none⟩))] ys (by kernel_rfl) (fun _ _ => rfl) (it_all_I cb44 b_high v_ys ys (by first | omega | (simp; done))) ⟨o_cb44, o_high, p_ys⟩ ((fun D A B h hc hd => ⟨obj_ch h.1 hc (fun h => Nat.not_lt.2 (hd _ h) lt_cb44_1), obj_ch h.2.1 hc (fun h => Nat.not_lt.2 (hd _ h) lt_high_1), Rd.ch p_ys (Nat.le_refl _) h.2.2 hc hd⟩)) (by intro x; rfl) (fun K pre A => ∃ (mm : List SpI) (v_cb4_0 : Value), (A.heap[b_high]? = some (.cells [v_ys, (.bool true)].toArray 109 (0, 0))) ∧ (A.heap[cb4]? = some (.cells [v_cb4_0, (.bool true)].toArray 109 (0, 0))) ∧ (A.heap[b5]? = some (.cells [(.pointer (some ⟨cb4, 0, none⟩))].toArray 41 (0, 0))) ∧ (A.heap[cb22]? = some (.cells [(.pointer none)].toArray 41 (0, 0))) ∧ (A.heap[w19.heap.size]? = some (.deferred (some []))) ∧ (A.heap[cb44]? = some (.cells [(.pointer (some ⟨b_high, 0, none⟩))].toArray 41 (0, 0))) ∧ (Row A w.heap.size 41 1 encPtr (.slice (some ⟨b10, 0, none⟩) 2 2) ([none, some b_high] : List (Option Nat))) ∧ (∀ g, Value.ownBlock (.slice (some ⟨b10, 0, none⟩) 2 2) = some g → ¬ Iv w41.heap.size K g) ∧ (Row A w.heap.size 113 3 encSpanI v_cb4_0 mm) ∧ (∀ g, Value.ownBlock v_cb4_0 = some g → ¬ Iv w41.heap.size K g) ∧ (Below w.heap.size w A) ∧ (mm = layAll eqI (layAll eqI [] ([] : List SpI)) pre) ∧ (RiseG 0 mm)) (fun K c pre A => False) ?_ ?_ ?_ ?_ ?_ ?_
    · intro A hA
      exact ⟨m, v_cb4_0, obj_below o_high hA, obj_below o_cb4 hA, obj_below o_x5 hA, obj_below o_cb22 hA, obj_below o_D0 hA, obj_below o_cb44 hA, r_b10.below hA, nr_old r_b10 _, r_cb4_0.below hA, nr_old r_cb4_0 _, hb.trans (hA.mono hs), by exact r1, by exact r2⟩
    · rintro K pre A B ⟨mm, v_cb4_0, o_high, o_cb4, o_x5, o_cb22, o_D0, o_cb44, r_b10, nr_r_b10, r_cb4_0, nr_r_cb4_0, hb, s1, s2⟩ hc
      exact ⟨mm, v_cb4_0, obj_ch o_high hc (fun h => Nat.not_lt.2 h.1 lt_high_1), obj_ch o_cb4 hc (fun h => Nat.not_lt.2 h.1 lt_cb4_1), obj_ch o_x5 hc (fun h => Nat.not_lt.2 h.1 lt_x5_1), obj_ch o_cb22 hc (fun h => Nat.not_lt.2 h.1 lt_cb22_1), obj_ch o_D0 hc (fun h => Nat.not_lt.2 h.1 lt_D0_1), obj_ch o_cb44 hc (fun h => Nat.not_lt.2 h.1 lt_cb44_1), r_b10.ch hc nr_r_b10, nr_r_b10, r_cb4_0.ch hc nr_r_cb4_0, nr_r_cb4_0, hc.below hb hb.size (fun k h => Nat.le_trans hs_1 h.1), s1, s2⟩
    · intro K c _ A B h hc; exact h.elim
    · intro l K pre x A hi hN hK0 hK hpre
      obtain ⟨mm, v_cb4_0, o_high, o_cb4, o_x5, o_cb22, o_D0, o_cb44, r_b10, nr_r_b10, r_cb4_0, nr_r_cb4_0, hb, s1, s2⟩ := hi
      have hs := hb.size
      have hk := Kp.refl (w41.heap.size) K A
      have nv_high : ¬ Iv (w41.heap.size) K b_high := fun h => Nat.not_lt.2 h.1 lt_high_1
      have nv_cb4 : ¬ Iv (w41.heap.size) K cb4 := fun h => Nat.not_lt.2 h.1 lt_cb4_1
      have nv_x5 : ¬ Iv (w41.heap.size) K b5 := fun h => Nat.not_lt.2 h.1 lt_x5_1
      have nv_cb22 : ¬ Iv (w41.heap.size) K cb22 := fun h => Nat.not_lt.2 h.1 lt_cb22_1
      have nv_D0 : ¬ Iv (w41.heap.size) K w19.heap.size := fun h => Nat.not_lt.2 h.1 lt_D0_1
      have nv_cb44 : ¬ Iv (w41.heap.size) K cb44 := fun h => Nat.not_lt.2 h.1 lt_cb44_1
      have p_ys := in_p_ys.below hb
      replace o_cb44 := hN.1
      replace o_high := hN.2.1
      have hx := hry.pre hpre
      refine W_seq (W_region (L_new (fun b => .pointer (some ⟨b, 0, none⟩)) (.cells [(.int .i32 0), (.int .i32 0)].toArray 29 (0, 0)) (by kernel_rfl) (by kernel_rfl) ?_))
      intro b45 w46 hN47
      have ne_high_x8 : b_high ≠ b45 := by have := (obj_lt o_high); have := hN47.num; omega
      have ne_x8_high := ne_high_x8.symm
      have ne_cb4_x8 : cb4 ≠ b45 := by have := (obj_lt o_cb4); have := hN47.num; omega
      have ne_x8_cb4 := ne_cb4_x8.symm
      have ne_x5_x8 : b5 ≠ b45 := by have := (obj_lt o_x5); have := hN47.num; omega
      have ne_x8_x5 := ne_x5_x8.symm
      have ne_cb22_x8 : cb22 ≠ b45 := by have := (obj_lt o_cb22); have := hN47.num; omega
      have ne_x8_cb22 := ne_cb22_x8.symm
      have ne_D0_x8 : w19.heap.size ≠ b45 := by have := (obj_lt o_D0); have := hN47.num; omega
      have ne_x8_D0 := ne_D0_x8.symm
      have ne_cb44_x8 : cb44 ≠ b45 := by have := (obj_lt o_cb44); have := hN47.num; omega
      have ne_x8_cb44 := ne_cb44_x8.symm
      have g_x8 : w.heap.size ≤ b45 := by rw [hN47.num]; exact hs
      have nv_x8 : ¬ Iv w41.heap.size K b45 := fun h => by have := h.2; have := hN47.num; omega
      replace hb := hb.trans (hN47.below.mono hs)
      replace hk := hk.ch (Ch.of_below hN47.below) hK (fun _ h => h.elim)
      replace hK := Nat.le_trans hK (hN47.below.size)
      replace hs := Nat.le_trans hs (hN47.below.size)
      replace o_high := obj_below o_high hN47.below
      replace o_cb4 := obj_below o_cb4 hN47.below
      replace o_x5 := obj_below o_x5 hN47.below
      replace o_cb22 := obj_below o_cb22 hN47.below
      replace o_D0 := obj_below o_D0 hN47.below
      replace o_cb44 := obj_below o_cb44 hN47.below
      replace p_ys := p_ys.below hN47.below
      replace r_b10 := r_b10.below hN47.below
      replace r_cb4_0 := r_cb4_0.below hN47.below
      have o_x8 := hN47.here
      refine L_storeA b45 0 [(.int .i32 x.1), (.int .i32 x.2.1)] [(.int .i32 0), (.int .i32 0)] [(.int .i32 x.1), (.int .i32 x.2.1)] 29 (by kernel_rfl) (by kernel_rfl) rfl (by kernel_rfl) o_x8 (by kernel_rfl) rfl ?_
      intro w48 hW49
      replace hb := hb.trans (hW49.below g_x8)
      replace hk := hk.ch (Ch.of_wrote hW49) hK (fun k e h => nv_x8 (e ▸ h))
      replace hK := Nat.le_trans hK (Nat.le_of_eq hW49.size.symm)
      replace hs := Nat.le_trans hs (Nat.le_of_eq hW49.size.symm)
      have n_o_high := obj_wrote o_high hW49 (obj_ne o_high o_x8 (by simp))
      have n_o_cb4 := obj_wrote o_cb4 hW49 (obj_ne o_cb4 o_x8 (by simp))
      have n_o_x5 := obj_wrote o_x5 hW49 (obj_ne o_x5 o_x8 (by simp))
      have n_o_cb22 := obj_wrote o_cb22 hW49 (obj_ne o_cb22 o_x8 (by simp))
      have n_o_D0 := obj_wrote o_D0 hW49 (obj_ne o_D0 o_x8 (by simp))
      have n_o_cb44 := obj_wrote o_cb44 hW49 (obj_ne o_cb44 o_x8 (by simp))
      have n_p_ys := in_p_ys.below hb
      have n_r_b10 := r_b10.wrote hW49 (r_b10.ne o_x8 (by simp))
      have n_r_cb4_0 := r_cb4_0.wrote hW49 (r_cb4_0.ne o_x8 (by simp))
      replace o_high := n_o_high; clear n_o_high
      replace o_cb4 := n_o_cb4; clear n_o_cb4
      replace o_x5 := n_o_x5; clear n_o_x5
      replace o_cb22 := n_o_cb22; clear n_o_cb22
      replace o_D0 := n_o_D0; clear n_o_D0
      replace o_cb44 := n_o_cb44; clear n_o_cb44
      replace p_ys := n_p_ys; clear n_p_ys
      replace r_b10 := n_r_b10; clear n_r_b10
      replace r_cb4_0 := n_r_cb4_0; clear n_r_cb4_0
      replace o_x8 := hW49.here
      refine L_nil (thenQ_normal (W_region (L_as (L_nil ?_))))
      refine thenQ_normal ⟨hk, ?_⟩
      intro w50 hc51
      replace o_high := obj_ch o_high hc51 nv_high
      replace o_cb4 := obj_ch o_cb4 hc51 nv_cb4
      replace o_x5 := obj_ch o_x5 hc51 nv_x5
      replace o_cb22 := obj_ch o_cb22 hc51 nv_cb22
      replace o_D0 := obj_ch o_D0 hc51 nv_D0
      replace o_cb44 := obj_ch o_cb44 hc51 nv_cb44
      replace o_x8 := obj_ch o_x8 hc51 nv_x8
      replace r_b10 := r_b10.ch hc51 nr_r_b10
      replace r_cb4_0 := r_cb4_0.ch hc51 nr_r_cb4_0
      replace hb := hc51.below hb hs (fun k h => Nat.le_trans hs_1 h.1)
      replace p_ys := in_p_ys.below hb
      replace hs := hb.size
      replace hK := Nat.le_trans hK hc51.size
      replace hk := Kp.refl (w41.heap.size) K w50
      refine W_block (W_region (L_load b5 0 (.pointer (some ⟨cb4, 0, none⟩)) (by kernel_rfl) (by kernel_rfl) (cell_obj o_x5 rfl) (L_loadA b45 0 [(.int .i32 x.1), (.int .i32 x.2.1)] (by kernel_rfl) (by kernel_rfl) (by kernel_rfl) (cells_at o_x8 0 (by kernel_rfl)) (L_mv (L_call 16 [(.pointer (some ⟨cb4, 0, none⟩)), (Value.agg #[(.int .i32 x.1), (.int .i32 x.2.1)]), (.int .i64 x.2.2)] (by kernel_rfl) (by kernel_rfl) (c_lay_I cb4 v_cb4_0 mm x.1 x.2.1 x.2.2 w.heap.size _ hs o_cb4 g_cb4 r_cb4_0 (by first | exact s2 | exact r2 | trivial) (by first | omega | (simp; done)) (by first | omega | (simp; done))) ?_)))))
      rintro _ w53 ⟨q52, rfl, ho56, r_q52, dm54, hC55⟩
      have hnk : ∀ k, Dm cb4 v_cb4_0 k → ¬ Iv (w41.heap.size) K k := fun k e => e.elim (fun x => by rw [x]; exact nv_cb4) (fun x => nr_r_cb4_0 k x)
      have nr_r_q52 : ∀ g, Value.ownBlock q52 = some g → ¬ Iv (w41.heap.size) K g := fun g hg => (dm54 g hg).elim (fun x y => by have := y.2; omega) (fun e => hnk g e)
      replace hk := hk.ch hC55 hK hnk
      replace hK := Nat.le_trans hK hC55.size
      replace hb := hC55.below hb hs (fun k e => e.elim (fun x => x ▸ g_cb4) (fun x => (World.ownsRow.lt r_cb4_0 k x).1))
      replace hs := Nat.le_trans hs hC55.size
      have n_o_high := obj_ch_mut o_high hC55 ne_high_cb4 (r_cb4_0.ne o_high (by simp))
      have n_o_x5 := obj_ch_mut o_x5 hC55 (obj_ne o_x5 o_cb4 (by simp)) (r_cb4_0.ne o_x5 (by simp))
      have n_o_cb22 := obj_ch_mut o_cb22 hC55 (obj_ne o_cb22 o_cb4 (by simp)) (r_cb4_0.ne o_cb22 (by simp))
      have n_o_D0 := obj_ch_mut o_D0 hC55 (obj_ne o_D0 o_cb4 (by simp)) (r_cb4_0.ne o_D0 (by simp))
      have n_o_cb44 := obj_ch_mut o_cb44 hC55 (obj_ne o_cb44 o_cb4 (by simp)) (r_cb4_0.ne o_cb44 (by simp))
      have n_o_x8 := obj_ch_mut o_x8 hC55 (obj_ne o_x8 o_cb4 (by simp)) (r_cb4_0.ne o_x8 (by simp))
      have n_p_ys := in_p_ys.below hb
      have n_r_b10 := r_b10.ch_mut hC55 (r_b10.ne o_cb4 (by simp)) (r_b10.apart r_cb4_0 (by kernel_rfl))
      replace o_high := n_o_high; clear n_o_high
      replace o_x5 := n_o_x5; clear n_o_x5
      replace o_cb22 := n_o_cb22; clear n_o_cb22
      replace o_D0 := n_o_D0; clear n_o_D0
      replace o_cb44 := n_o_cb44; clear n_o_cb44
      replace o_x8 := n_o_x8; clear n_o_x8
      replace p_ys := n_p_ys; clear n_p_ys
      replace r_b10 := n_r_b10; clear n_r_b10
      replace o_cb4 := ho56
      refine L_nil (blkQ_normal ?_)
      refine round_normal hk ⟨o_cb44, o_high, p_ys⟩ ⟨(layF eqI mm x.1 x.2.1 x.2.2), q52, o_high, o_cb4, o_x5, o_cb22, o_D0, o_cb44, r_b10, nr_r_b10, r_q52, nr_r_q52, hb, ?_, ?_⟩
      · rw [s1]; exact (layAll_snoc _ _ _).symm
      · exact layF_rise s2
    · intro K A hi hsz o_D1
      obtain ⟨mm, v_cb4_0, o_high, o_cb4, o_x5, o_cb22, o_D0, o_cb44, r_b10, nr_r_b10, r_cb4_0, nr_r_cb4_0, hb, s1, s2⟩ := hi
      have p_ys := in_p_ys.below hb
      have ne_high_D1 : b_high ≠ w41.heap.size := Nat.ne_of_lt lt_high_1
      have ne_D1_high := ne_high_D1.symm
      have ne_cb4_D1 : cb4 ≠ w41.heap.size := Nat.ne_of_lt lt_cb4_1
      have ne_D1_cb4 := ne_cb4_D1.symm
      have ne_x5_D1 : b5 ≠ w41.heap.size := Nat.ne_of_lt lt_x5_1
      have ne_D1_x5 := ne_x5_D1.symm
      have ne_cb22_D1 : cb22 ≠ w41.heap.size := Nat.ne_of_lt lt_cb22_1
      have ne_D1_cb22 := ne_cb22_D1.symm
      have ne_D0_D1 : w19.heap.size ≠ w41.heap.size := Nat.ne_of_lt lt_D0_1
      have ne_D1_D0 := ne_D0_D1.symm
      have ne_cb44_D1 : cb44 ≠ w41.heap.size := Nat.ne_of_lt lt_cb44_1
      have ne_D1_cb44 := ne_cb44_D1.symm
      have hs : w.heap.size ≤ _ := hb.size
      refine blkQ_normal (blkQ_normal (thenQ_normal (W_region (L_addN 1 1 (by omega) (by kernel_rfl) (by kernel_rfl) (L_mv (L_nil (thenQ_round (W_seq (W_region (L_run (.bool false) (by kernel_rfl) (by kernel_rfl) (L_nil (thenQ_normal (W_seq (W_false (by kernel_rfl) (W_exit (thenQ_exit (thenQ_exit (blkQ_exit (thenQ_normal (W_seq (W_region (L_load b5 0 (.pointer (some ⟨cb4, 0, none⟩)) (by kernel_rfl) (by kernel_rfl) (cell_obj o_x5 rfl) (L_as (L_nil (thenQ_normal (W_ret (end_retM (ds := [⟨.collected w41.heap.size, #[]⟩, ⟨.collected w19.heap.size, #[]⟩]) (by kernel_rfl) (Lv_mark o_D1 ?_))))))))))))))))))))))))))))
      intro w57 hW58
      replace hb := hb.trans (hW58.below hs_1)
      replace hs := Nat.le_trans hs (Nat.le_of_eq hW58.size.symm)
      have n_o_high := obj_wrote o_high hW58 (obj_ne o_high o_D1 (by simp))
      have n_o_cb4 := obj_wrote o_cb4 hW58 (obj_ne o_cb4 o_D1 (by simp))
      have n_o_x5 := obj_wrote o_x5 hW58 (obj_ne o_x5 o_D1 (by simp))
      have n_o_cb22 := obj_wrote o_cb22 hW58 (obj_ne o_cb22 o_D1 (by simp))
      have n_o_D0 := obj_wrote o_D0 hW58 ne_D0_D1
      have n_o_cb44 := obj_wrote o_cb44 hW58 (obj_ne o_cb44 o_D1 (by simp))
      have n_p_ys := in_p_ys.below hb
      have n_r_b10 := r_b10.wrote hW58 (r_b10.ne o_D1 (by simp))
      have n_r_cb4_0 := r_cb4_0.wrote hW58 (r_cb4_0.ne o_D1 (by simp))
      replace o_high := n_o_high; clear n_o_high
      replace o_cb4 := n_o_cb4; clear n_o_cb4
      replace o_x5 := n_o_x5; clear n_o_x5
      replace o_cb22 := n_o_cb22; clear n_o_cb22
      replace o_D0 := n_o_D0; clear n_o_D0
      replace o_cb44 := n_o_cb44; clear n_o_cb44
      replace p_ys := n_p_ys; clear n_p_ys
      replace r_b10 := n_r_b10; clear n_r_b10
      replace r_cb4_0 := n_r_cb4_0; clear n_r_cb4_0
      replace o_D1 := hW58.here
      refine Lv_mark o_D0 ?_
      intro w59 hW60
      replace hb := hb.trans (hW60.below hs_0)
      replace hs := Nat.le_trans hs (Nat.le_of_eq hW60.size.symm)
      have n_o_high := obj_wrote o_high hW60 (obj_ne o_high o_D0 (by simp))
      have n_o_cb4 := obj_wrote o_cb4 hW60 (obj_ne o_cb4 o_D0 (by simp))
      have n_o_x5 := obj_wrote o_x5 hW60 (obj_ne o_x5 o_D0 (by simp))
      have n_o_cb22 := obj_wrote o_cb22 hW60 (obj_ne o_cb22 o_D0 (by simp))
      have n_o_cb44 := obj_wrote o_cb44 hW60 (obj_ne o_cb44 o_D0 (by simp))
      have n_o_D1 := obj_wrote o_D1 hW60 (obj_ne o_D1 o_D0 (by simp))
      have n_p_ys := in_p_ys.below hb
      have n_r_b10 := r_b10.wrote hW60 (r_b10.ne o_D0 (by simp))
      have n_r_cb4_0 := r_cb4_0.wrote hW60 (r_cb4_0.ne o_D0 (by simp))
      replace o_high := n_o_high; clear n_o_high
      replace o_cb4 := n_o_cb4; clear n_o_cb4
      replace o_x5 := n_o_x5; clear n_o_x5
      replace o_cb22 := n_o_cb22; clear n_o_cb22
      replace o_cb44 := n_o_cb44; clear n_o_cb44
      replace o_D1 := n_o_D1; clear n_o_D1
      replace p_ys := n_p_ys; clear n_p_ys
      replace r_b10 := n_r_b10; clear n_r_b10
      replace r_cb4_0 := n_r_cb4_0; clear n_r_cb4_0
      replace o_D0 := hW60.here
      refine Lv_nil [.tmp 4] [(.pointer (some ⟨cb4, 0, none⟩))] rfl ⟨by kernel_rfl, trivial⟩ ?_
      have e51 : mm = (overF eqI ([] : List SpI) ys) := by first | exact s1 | rfl
      exact ⟨v_cb4_0, cb4, rfl, r_cb4_0.cast e51, o_cb4, g_cb4, hb⟩
    · intro K c _ x A _ h; exact h.elim
  · intro K c _ x A _ h; exact h.elim

set_option maxHeartbeats 4000000 in
set_option maxRecDepth 100000 in
theorem c_over_ln_I (b_low : Nat) (v_xs : Value) (xs : List (Int × Int × Int)) (w : World) (o_low : w.heap[b_low]? = some (.cells [v_xs, (.bool true)].toArray 109 (0, 0))) (p_xs : Rd w encSpanI v_xs xs) (hrx : RiseG 0 xs) :
    Calls Try.prog 29 #[(.pointer (some ⟨b_low, 0, none⟩)), (.pointer none)] w (Ret fun v w' => ∃ (q0 : Value) (cb0 : Nat), v = (.pointer (some ⟨cb0, 0, none⟩)) ∧ Row w' w.heap.size 113 3 encSpanI q0 (overF eqI xs ([] : List SpI)) ∧ w'.heap[cb0]? = some (.cells [q0, (.bool true)].toArray 109 (0, 0)) ∧ w.heap.size ≤ cb0 ∧ Below w.heap.size w w') := by
  refine enterM (args := [(.pointer (some ⟨b_low, 0, none⟩)), (.pointer none)]) Try.func29 rfl (by kernel_rfl : _ = 29) (by kernel_rfl) ?_
  have hb := Below.refl w.heap.size w
  have hs : w.heap.size ≤ w.heap.size := Nat.le_refl _
  have in_p_xs := p_xs
  have hlhrx := hrx.len
  have hry : RiseG 0 ([] : List SpI) := trivial
  refine W_seq (W_region (L_as (L_nil (thenQ_normal (W_seq (W_region (L_call 14 [] (by kernel_rfl) (by kernel_rfl) (c_new_I  _ ) ?_)))))))
  rintro _ w1 ⟨cb4, rfl, o_cb4, g_cb4, hB2⟩
  have ne_low_cb4 : b_low ≠ cb4 := by have := (obj_lt o_low); omega
  have ne_cb4_low := ne_low_cb4.symm
  replace g_cb4 := Nat.le_trans hs g_cb4
  replace hb := hb.trans (hB2.mono hs)
  replace hs := Nat.le_trans hs (hB2.size)
  replace o_low := obj_below o_low hB2
  replace p_xs := p_xs.below hB2
  refine L_new (fun b => .pointer (some ⟨b, 0, none⟩)) (.cells [(.pointer none)].toArray 41 (0, 0)) (by kernel_rfl) (by kernel_rfl) ?_
  intro b5 w6 hN7
  have ne_low_x5 : b_low ≠ b5 := by have := (obj_lt o_low); have := hN7.num; omega
  have ne_x5_low := ne_low_x5.symm
  have ne_cb4_x5 : cb4 ≠ b5 := by have := (obj_lt o_cb4); have := hN7.num; omega
  have ne_x5_cb4 := ne_cb4_x5.symm
  have g_x5 : w.heap.size ≤ b5 := by rw [hN7.num]; exact hs
  replace hb := hb.trans (hN7.below.mono hs)
  replace hs := Nat.le_trans hs (hN7.below.size)
  replace o_low := obj_below o_low hN7.below
  replace o_cb4 := obj_below o_cb4 hN7.below
  replace p_xs := p_xs.below hN7.below
  have o_x5 := hN7.here
  refine L_store b5 0 (.pointer (some ⟨cb4, 0, none⟩)) [(.pointer none)] [(.pointer (some ⟨cb4, 0, none⟩))] 41 (by kernel_rfl) (by kernel_rfl) rfl (by kernel_rfl) o_x5 (by simp) rfl ?_
  intro w8 hW9
  replace hb := hb.trans (hW9.below g_x5)
  replace hs := Nat.le_trans hs (Nat.le_of_eq hW9.size.symm)
  have n_o_low := obj_wrote o_low hW9 (obj_ne o_low o_x5 (by simp))
  have n_o_cb4 := obj_wrote o_cb4 hW9 (obj_ne o_cb4 o_x5 (by simp))
  have n_p_xs := in_p_xs.below hb
  replace o_low := n_o_low; clear n_o_low
  replace o_cb4 := n_o_cb4; clear n_o_cb4
  replace p_xs := n_p_xs; clear n_p_xs
  replace o_x5 := hW9.here
  refine L_nil (thenQ_normal (W_seq (W_seq (W_region (L_mv (L_mv (L_new (fun b => .slice (some ⟨b, 0, none⟩) 2 2) (.cells [(.pointer (some ⟨b_low, 0, none⟩)), (.pointer none)].toArray 41 (0, 0)) (by kernel_rfl) (by kernel_rfl) ?_)))))))
  intro b10 w11 hN12
  have g_b10 : w.heap.size ≤ b10 := by rw [hN12.num]; exact hs
  replace hb := hb.trans (hN12.below.mono hs)
  replace hs := Nat.le_trans hs (hN12.below.size)
  replace o_low := obj_below o_low hN12.below
  replace o_cb4 := obj_below o_cb4 hN12.below
  replace o_x5 := obj_below o_x5 hN12.below
  replace p_xs := p_xs.below hN12.below
  have r_b10 : Row w11 w.heap.size 41 1 encPtr (.slice (some ⟨b10, 0, none⟩) 2 2) ([some b_low, none] : List (Option Nat)) := Row.made ([some b_low, none] : List (Option Nat)) hN12 g_b10 rfl rfl (by first | decide | (simp; done))
  refine L_len 133 41 2 (.slice (some ⟨b10, 0, none⟩) 2 2) rfl Try.underlying133 (r_b10.rd).len (by kernel_rfl) (L_mv (L_nil (thenQ_normal (W_block (W_unroll 2 (W_seq (W_region (L_run (.bool true) (by kernel_rfl) (by kernel_rfl) (L_nil (thenQ_normal (W_seq (W_true (by kernel_rfl) (W_skip (thenQ_normal (W_seq (W_block (W_seq (W_region ?_))))))))))))))))))
  have hx14 : ([some b_low, none] : List (Option Nat))[0]? = some (some b_low) := rfl
  have hz := (r_b10.rd).at (k := 1) (fun _ => rfl) hx14
  obtain ⟨g15, off16, hl17, hc18⟩ := hz
  refine L_ixaddr (k := .i64) (.slice (some ⟨b10, 0, none⟩) 2 2) 0 _ g15 off16 el133 hl17 (by first | omega | (simp; done)) (by kernel_rfl) (by kernel_rfl) (L_load g15 (off16 + 0 * 1) (.pointer (some ⟨b_low, 0, none⟩)) (by kernel_rfl) (by kernel_rfl) (hc18 0 _ rfl) (L_as (L_nil (thenQ_normal (W_seq (W_region (L_mv (L_call 61 [(.pointer (some ⟨b_low, 0, none⟩))] (by kernel_rfl) (by kernel_rfl) (c_all_I b_low v_xs xs _ o_low p_xs) ?_))))))))
  rintro _ w19 ⟨cb22, rfl, o_cb22, g_cb22, hB20⟩
  have ne_low_cb22 : b_low ≠ cb22 := by have := (obj_lt o_low); omega
  have ne_cb22_low := ne_low_cb22.symm
  have ne_cb4_cb22 : cb4 ≠ cb22 := by have := (obj_lt o_cb4); omega
  have ne_cb22_cb4 := ne_cb4_cb22.symm
  have ne_x5_cb22 : b5 ≠ cb22 := by have := (obj_lt o_x5); omega
  have ne_cb22_x5 := ne_x5_cb22.symm
  have nb_o_cb22_r_b10 := Row.nb_ge r_b10 g_cb22
  replace g_cb22 := Nat.le_trans hs g_cb22
  replace hb := hb.trans (hB20.mono hs)
  replace hs := Nat.le_trans hs (hB20.size)
  replace o_low := obj_below o_low hB20
  replace o_cb4 := obj_below o_cb4 hB20
  replace o_x5 := obj_below o_x5 hB20
  replace p_xs := p_xs.below hB20
  replace r_b10 := r_b10.below hB20
  refine L_nil (thenQ_normal (W_block ?_))
  have lt_low_0 : b_low < w19.heap.size := obj_lt o_low
  have lt_cb4_0 : cb4 < w19.heap.size := obj_lt o_cb4
  have lt_x5_0 : b5 < w19.heap.size := obj_lt o_x5
  have lt_cb22_0 : cb22 < w19.heap.size := obj_lt o_cb22
  have hs_0 := hs
  have hb_0 := hb
  refine W_range 103 [(.pointer (some ⟨cb22, 0, none⟩))] xs (by kernel_rfl) (fun _ _ => rfl) (it_all_I cb22 b_low v_xs xs (by first | omega | (simp; done))) ⟨o_cb22, o_low, p_xs⟩ ((fun D A B h hc hd => ⟨obj_ch h.1 hc (fun h => Nat.not_lt.2 (hd _ h) lt_cb22_0), obj_ch h.2.1 hc (fun h => Nat.not_lt.2 (hd _ h) lt_low_0), Rd.ch p_xs (Nat.le_refl _) h.2.2 hc hd⟩)) (by intro x; rfl) (fun K pre A => ∃ (m : List SpI) (v_cb4_0 : Value), (A.heap[b_low]? = some (.cells [v_xs, (.bool true)].toArray 109 (0, 0))) ∧ (A.heap[cb4]? = some (.cells [v_cb4_0, (.bool true)].toArray 109 (0, 0))) ∧ (A.heap[b5]? = some (.cells [(.pointer (some ⟨cb4, 0, none⟩))].toArray 41 (0, 0))) ∧ (A.heap[cb22]? = some (.cells [(.pointer (some ⟨b_low, 0, none⟩))].toArray 41 (0, 0))) ∧ (Row A w.heap.size 41 1 encPtr (.slice (some ⟨b10, 0, none⟩) 2 2) ([some b_low, none] : List (Option Nat))) ∧ (∀ g, Value.ownBlock (.slice (some ⟨b10, 0, none⟩) 2 2) = some g → ¬ Iv w19.heap.size K g) ∧ (Row A w.heap.size 113 3 encSpanI v_cb4_0 m) ∧ (∀ g, Value.ownBlock v_cb4_0 = some g → ¬ Iv w19.heap.size K g) ∧ (Below w.heap.size w A) ∧ (m = layAll eqI [] pre) ∧ (RiseG 0 m)) (fun K c pre A => False) ?_ ?_ ?_ ?_ ?_ ?_
  · intro A hA
    exact ⟨[], (.slice none 0 0), obj_below o_low hA, obj_below o_cb4 hA, obj_below o_x5 hA, obj_below o_cb22 hA, r_b10.below hA, nr_old r_b10 _, Row.nil _ _ _ _ _, nr_nil _ _, hb.trans (hA.mono hs), by rfl, by trivial⟩
  · rintro K pre A B ⟨m, v_cb4_0, o_low, o_cb4, o_x5, o_cb22, r_b10, nr_r_b10, r_cb4_0, nr_r_cb4_0, hb, r1, r2⟩ hc
    exact ⟨m, v_cb4_0, obj_ch o_low hc (fun h => Nat.not_lt.2 h.1 lt_low_0), obj_ch o_cb4 hc (fun h => Nat.not_lt.2 h.1 lt_cb4_0), obj_ch o_x5 hc (fun h => Nat.not_lt.2 h.1 lt_x5_0), obj_ch o_cb22 hc (fun h => Nat.not_lt.2 h.1 lt_cb22_0), r_b10.ch hc nr_r_b10, nr_r_b10, r_cb4_0.ch hc nr_r_cb4_0, nr_r_cb4_0, hc.below hb hb.size (fun k h => Nat.le_trans hs_0 h.1), r1, r2⟩
  · intro K c _ A B h hc; exact h.elim
  · intro l K pre x A hi hN hK0 hK hpre
    obtain ⟨m, v_cb4_0, o_low, o_cb4, o_x5, o_cb22, r_b10, nr_r_b10, r_cb4_0, nr_r_cb4_0, hb, r1, r2⟩ := hi
    have hs := hb.size
    have hk := Kp.refl (w19.heap.size) K A
    have nv_low : ¬ Iv (w19.heap.size) K b_low := fun h => Nat.not_lt.2 h.1 lt_low_0
    have nv_cb4 : ¬ Iv (w19.heap.size) K cb4 := fun h => Nat.not_lt.2 h.1 lt_cb4_0
    have nv_x5 : ¬ Iv (w19.heap.size) K b5 := fun h => Nat.not_lt.2 h.1 lt_x5_0
    have nv_cb22 : ¬ Iv (w19.heap.size) K cb22 := fun h => Nat.not_lt.2 h.1 lt_cb22_0
    have p_xs := in_p_xs.below hb
    replace o_cb22 := hN.1
    replace o_low := hN.2.1
    have hx := hrx.pre hpre
    refine W_seq (W_region (L_new (fun b => .pointer (some ⟨b, 0, none⟩)) (.cells [(.int .i32 0), (.int .i32 0)].toArray 29 (0, 0)) (by kernel_rfl) (by kernel_rfl) ?_))
    intro b23 w24 hN25
    have ne_low_x8 : b_low ≠ b23 := by have := (obj_lt o_low); have := hN25.num; omega
    have ne_x8_low := ne_low_x8.symm
    have ne_cb4_x8 : cb4 ≠ b23 := by have := (obj_lt o_cb4); have := hN25.num; omega
    have ne_x8_cb4 := ne_cb4_x8.symm
    have ne_x5_x8 : b5 ≠ b23 := by have := (obj_lt o_x5); have := hN25.num; omega
    have ne_x8_x5 := ne_x5_x8.symm
    have ne_cb22_x8 : cb22 ≠ b23 := by have := (obj_lt o_cb22); have := hN25.num; omega
    have ne_x8_cb22 := ne_cb22_x8.symm
    have g_x8 : w.heap.size ≤ b23 := by rw [hN25.num]; exact hs
    have nv_x8 : ¬ Iv w19.heap.size K b23 := fun h => by have := h.2; have := hN25.num; omega
    replace hb := hb.trans (hN25.below.mono hs)
    replace hk := hk.ch (Ch.of_below hN25.below) hK (fun _ h => h.elim)
    replace hK := Nat.le_trans hK (hN25.below.size)
    replace hs := Nat.le_trans hs (hN25.below.size)
    replace o_low := obj_below o_low hN25.below
    replace o_cb4 := obj_below o_cb4 hN25.below
    replace o_x5 := obj_below o_x5 hN25.below
    replace o_cb22 := obj_below o_cb22 hN25.below
    replace p_xs := p_xs.below hN25.below
    replace r_b10 := r_b10.below hN25.below
    replace r_cb4_0 := r_cb4_0.below hN25.below
    have o_x8 := hN25.here
    refine L_storeA b23 0 [(.int .i32 x.1), (.int .i32 x.2.1)] [(.int .i32 0), (.int .i32 0)] [(.int .i32 x.1), (.int .i32 x.2.1)] 29 (by kernel_rfl) (by kernel_rfl) rfl (by kernel_rfl) o_x8 (by kernel_rfl) rfl ?_
    intro w26 hW27
    replace hb := hb.trans (hW27.below g_x8)
    replace hk := hk.ch (Ch.of_wrote hW27) hK (fun k e h => nv_x8 (e ▸ h))
    replace hK := Nat.le_trans hK (Nat.le_of_eq hW27.size.symm)
    replace hs := Nat.le_trans hs (Nat.le_of_eq hW27.size.symm)
    have n_o_low := obj_wrote o_low hW27 (obj_ne o_low o_x8 (by simp))
    have n_o_cb4 := obj_wrote o_cb4 hW27 (obj_ne o_cb4 o_x8 (by simp))
    have n_o_x5 := obj_wrote o_x5 hW27 (obj_ne o_x5 o_x8 (by simp))
    have n_o_cb22 := obj_wrote o_cb22 hW27 (obj_ne o_cb22 o_x8 (by simp))
    have n_p_xs := in_p_xs.below hb
    have n_r_b10 := r_b10.wrote hW27 (r_b10.ne o_x8 (by simp))
    have n_r_cb4_0 := r_cb4_0.wrote hW27 (r_cb4_0.ne o_x8 (by simp))
    replace o_low := n_o_low; clear n_o_low
    replace o_cb4 := n_o_cb4; clear n_o_cb4
    replace o_x5 := n_o_x5; clear n_o_x5
    replace o_cb22 := n_o_cb22; clear n_o_cb22
    replace p_xs := n_p_xs; clear n_p_xs
    replace r_b10 := n_r_b10; clear n_r_b10
    replace r_cb4_0 := n_r_cb4_0; clear n_r_cb4_0
    replace o_x8 := hW27.here
    refine L_nil (thenQ_normal (W_region (L_as (L_nil ?_))))
    refine thenQ_normal ⟨hk, ?_⟩
    intro w28 hc29
    replace o_low := obj_ch o_low hc29 nv_low
    replace o_cb4 := obj_ch o_cb4 hc29 nv_cb4
    replace o_x5 := obj_ch o_x5 hc29 nv_x5
    replace o_cb22 := obj_ch o_cb22 hc29 nv_cb22
    replace o_x8 := obj_ch o_x8 hc29 nv_x8
    replace r_b10 := r_b10.ch hc29 nr_r_b10
    replace r_cb4_0 := r_cb4_0.ch hc29 nr_r_cb4_0
    replace hb := hc29.below hb hs (fun k h => Nat.le_trans hs_0 h.1)
    replace p_xs := in_p_xs.below hb
    replace hs := hb.size
    replace hK := Nat.le_trans hK hc29.size
    replace hk := Kp.refl (w19.heap.size) K w28
    refine W_block (W_region (L_load b5 0 (.pointer (some ⟨cb4, 0, none⟩)) (by kernel_rfl) (by kernel_rfl) (cell_obj o_x5 rfl) (L_loadA b23 0 [(.int .i32 x.1), (.int .i32 x.2.1)] (by kernel_rfl) (by kernel_rfl) (by kernel_rfl) (cells_at o_x8 0 (by kernel_rfl)) (L_mv (L_call 16 [(.pointer (some ⟨cb4, 0, none⟩)), (Value.agg #[(.int .i32 x.1), (.int .i32 x.2.1)]), (.int .i64 x.2.2)] (by kernel_rfl) (by kernel_rfl) (c_lay_I cb4 v_cb4_0 m x.1 x.2.1 x.2.2 w.heap.size _ hs o_cb4 g_cb4 r_cb4_0 (by first | exact s2 | exact r2 | trivial) (by first | omega | (simp; done)) (by first | omega | (simp; done))) ?_)))))
    rintro _ w31 ⟨q30, rfl, ho34, r_q30, dm32, hC33⟩
    have hnk : ∀ k, Dm cb4 v_cb4_0 k → ¬ Iv (w19.heap.size) K k := fun k e => e.elim (fun x => by rw [x]; exact nv_cb4) (fun x => nr_r_cb4_0 k x)
    have nr_r_q30 : ∀ g, Value.ownBlock q30 = some g → ¬ Iv (w19.heap.size) K g := fun g hg => (dm32 g hg).elim (fun x y => by have := y.2; omega) (fun e => hnk g e)
    replace hk := hk.ch hC33 hK hnk
    replace hK := Nat.le_trans hK hC33.size
    replace hb := hC33.below hb hs (fun k e => e.elim (fun x => x ▸ g_cb4) (fun x => (World.ownsRow.lt r_cb4_0 k x).1))
    replace hs := Nat.le_trans hs hC33.size
    have n_o_low := obj_ch_mut o_low hC33 ne_low_cb4 (r_cb4_0.ne o_low (by simp))
    have n_o_x5 := obj_ch_mut o_x5 hC33 (obj_ne o_x5 o_cb4 (by simp)) (r_cb4_0.ne o_x5 (by simp))
    have n_o_cb22 := obj_ch_mut o_cb22 hC33 (obj_ne o_cb22 o_cb4 (by simp)) (r_cb4_0.ne o_cb22 (by simp))
    have n_o_x8 := obj_ch_mut o_x8 hC33 (obj_ne o_x8 o_cb4 (by simp)) (r_cb4_0.ne o_x8 (by simp))
    have n_p_xs := in_p_xs.below hb
    have n_r_b10 := r_b10.ch_mut hC33 (r_b10.ne o_cb4 (by simp)) (r_b10.apart r_cb4_0 (by kernel_rfl))
    replace o_low := n_o_low; clear n_o_low
    replace o_x5 := n_o_x5; clear n_o_x5
    replace o_cb22 := n_o_cb22; clear n_o_cb22
    replace o_x8 := n_o_x8; clear n_o_x8
    replace p_xs := n_p_xs; clear n_p_xs
    replace r_b10 := n_r_b10; clear n_r_b10
    replace o_cb4 := ho34
    refine L_nil (blkQ_normal ?_)
    refine round_normal hk ⟨o_cb22, o_low, p_xs⟩ ⟨(layF eqI m x.1 x.2.1 x.2.2), q30, o_low, o_cb4, o_x5, o_cb22, r_b10, nr_r_b10, r_q30, nr_r_q30, hb, ?_, ?_⟩
    · rw [r1]; exact (layAll_snoc _ _ _).symm
    · exact layF_rise r2
  · intro K A hi hsz o_D0
    obtain ⟨m, v_cb4_0, o_low, o_cb4, o_x5, o_cb22, r_b10, nr_r_b10, r_cb4_0, nr_r_cb4_0, hb, r1, r2⟩ := hi
    have p_xs := in_p_xs.below hb
    have ne_low_D0 : b_low ≠ w19.heap.size := Nat.ne_of_lt lt_low_0
    have ne_D0_low := ne_low_D0.symm
    have ne_cb4_D0 : cb4 ≠ w19.heap.size := Nat.ne_of_lt lt_cb4_0
    have ne_D0_cb4 := ne_cb4_D0.symm
    have ne_x5_D0 : b5 ≠ w19.heap.size := Nat.ne_of_lt lt_x5_0
    have ne_D0_x5 := ne_x5_D0.symm
    have ne_cb22_D0 : cb22 ≠ w19.heap.size := Nat.ne_of_lt lt_cb22_0
    have ne_D0_cb22 := ne_cb22_D0.symm
    have hs : w.heap.size ≤ _ := hb.size
    refine blkQ_normal (blkQ_normal (thenQ_normal (W_region (L_addN 0 1 (by omega) (by kernel_rfl) (by kernel_rfl) (L_mv (L_nil (thenQ_round (W_seq (W_region (L_run (.bool true) (by kernel_rfl) (by kernel_rfl) (L_nil (thenQ_normal (W_seq (W_true (by kernel_rfl) (W_skip (thenQ_normal (W_seq (W_block (W_seq (W_region ?_))))))))))))))))))))
    have hx36 : ([some b_low, none] : List (Option Nat))[1]? = some (none) := rfl
    have hz := (r_b10.rd).at (k := 1) (fun _ => rfl) hx36
    obtain ⟨g37, off38, hl39, hc40⟩ := hz
    refine L_ixaddr (k := .i64) (.slice (some ⟨b10, 0, none⟩) 2 2) 1 _ g37 off38 el133 hl39 (by first | omega | (simp; done)) (by kernel_rfl) (by kernel_rfl) (L_load g37 (off38 + 1 * 1) (.pointer none) (by kernel_rfl) (by kernel_rfl) (hc40 0 _ rfl) (L_as (L_nil (thenQ_normal (W_seq (W_region (L_mv (L_call 61 [(.pointer none)] (by kernel_rfl) (by kernel_rfl) (c_all_nil_I  _ ) ?_))))))))
    rintro _ w41 ⟨cb44, rfl, o_cb44, g_cb44, hB42⟩
    have ne_low_cb44 : b_low ≠ cb44 := by have := (obj_lt o_low); omega
    have ne_cb44_low := ne_low_cb44.symm
    have ne_cb4_cb44 : cb4 ≠ cb44 := by have := (obj_lt o_cb4); omega
    have ne_cb44_cb4 := ne_cb4_cb44.symm
    have ne_x5_cb44 : b5 ≠ cb44 := by have := (obj_lt o_x5); omega
    have ne_cb44_x5 := ne_x5_cb44.symm
    have ne_cb22_cb44 : cb22 ≠ cb44 := by have := (obj_lt o_cb22); omega
    have ne_cb44_cb22 := ne_cb22_cb44.symm
    have ne_D0_cb44 : w19.heap.size ≠ cb44 := by have := (obj_lt o_D0); omega
    have ne_cb44_D0 := ne_D0_cb44.symm
    have nb_o_cb44_r_b10 := Row.nb_ge r_b10 g_cb44
    replace g_cb44 := Nat.le_trans hs g_cb44
    replace hb := hb.trans (hB42.mono hs)
    replace hs := Nat.le_trans hs (hB42.size)
    replace o_low := obj_below o_low hB42
    replace o_cb4 := obj_below o_cb4 hB42
    replace o_x5 := obj_below o_x5 hB42
    replace o_cb22 := obj_below o_cb22 hB42
    replace o_D0 := obj_below o_D0 hB42
    replace p_xs := p_xs.below hB42
    replace r_b10 := r_b10.below hB42
    replace r_cb4_0 := r_cb4_0.below hB42
    refine L_nil (thenQ_normal (W_block ?_))
    have lt_low_1 : b_low < w41.heap.size := obj_lt o_low
    have lt_cb4_1 : cb4 < w41.heap.size := obj_lt o_cb4
    have lt_x5_1 : b5 < w41.heap.size := obj_lt o_x5
    have lt_cb22_1 : cb22 < w41.heap.size := obj_lt o_cb22
    have lt_D0_1 : w19.heap.size < w41.heap.size := obj_lt o_D0
    have lt_cb44_1 : cb44 < w41.heap.size := obj_lt o_cb44
    have hs_1 := hs
    have hb_1 := hb
    refine W_range 103 [(.pointer (some ⟨cb44, 0, none⟩))] ([] : List SpI) (by kernel_rfl) (fun _ _ => rfl) (it_all_nil_I cb44 ) o_cb44 ((fun D A B h hc hd => obj_ch h hc (fun h => Nat.not_lt.2 (hd _ h) lt_cb44_1))) (by intro x; rfl) (fun K pre A => ∃ (mm : List SpI) (v_cb4_0 : Value), (A.heap[b_low]? = some (.cells [v_xs, (.bool true)].toArray 109 (0, 0))) ∧ (A.heap[cb4]? = some (.cells [v_cb4_0, (.bool true)].toArray 109 (0, 0))) ∧ (A.heap[b5]? = some (.cells [(.pointer (some ⟨cb4, 0, none⟩))].toArray 41 (0, 0))) ∧ (A.heap[cb22]? = some (.cells [(.pointer (some ⟨b_low, 0, none⟩))].toArray 41 (0, 0))) ∧ (A.heap[w19.heap.size]? = some (.deferred (some []))) ∧ (A.heap[cb44]? = some (.cells [(.pointer none)].toArray 41 (0, 0))) ∧ (Row A w.heap.size 41 1 encPtr (.slice (some ⟨b10, 0, none⟩) 2 2) ([some b_low, none] : List (Option Nat))) ∧ (∀ g, Value.ownBlock (.slice (some ⟨b10, 0, none⟩) 2 2) = some g → ¬ Iv w41.heap.size K g) ∧ (Row A w.heap.size 113 3 encSpanI v_cb4_0 mm) ∧ (∀ g, Value.ownBlock v_cb4_0 = some g → ¬ Iv w41.heap.size K g) ∧ (Below w.heap.size w A) ∧ (mm = layAll eqI (layAll eqI [] xs) pre) ∧ (RiseG 0 mm)) (fun K c pre A => False) ?_ ?_ ?_ ?_ ?_ ?_
    · intro A hA
      exact ⟨m, v_cb4_0, obj_below o_low hA, obj_below o_cb4 hA, obj_below o_x5 hA, obj_below o_cb22 hA, obj_below o_D0 hA, obj_below o_cb44 hA, r_b10.below hA, nr_old r_b10 _, r_cb4_0.below hA, nr_old r_cb4_0 _, hb.trans (hA.mono hs), by exact r1, by exact r2⟩
    · rintro K pre A B ⟨mm, v_cb4_0, o_low, o_cb4, o_x5, o_cb22, o_D0, o_cb44, r_b10, nr_r_b10, r_cb4_0, nr_r_cb4_0, hb, s1, s2⟩ hc
      exact ⟨mm, v_cb4_0, obj_ch o_low hc (fun h => Nat.not_lt.2 h.1 lt_low_1), obj_ch o_cb4 hc (fun h => Nat.not_lt.2 h.1 lt_cb4_1), obj_ch o_x5 hc (fun h => Nat.not_lt.2 h.1 lt_x5_1), obj_ch o_cb22 hc (fun h => Nat.not_lt.2 h.1 lt_cb22_1), obj_ch o_D0 hc (fun h => Nat.not_lt.2 h.1 lt_D0_1), obj_ch o_cb44 hc (fun h => Nat.not_lt.2 h.1 lt_cb44_1), r_b10.ch hc nr_r_b10, nr_r_b10, r_cb4_0.ch hc nr_r_cb4_0, nr_r_cb4_0, hc.below hb hb.size (fun k h => Nat.le_trans hs_1 h.1), s1, s2⟩
    · intro K c _ A B h hc; exact h.elim
    · intro l K pre x A hi hN hK0 hK hpre
      obtain ⟨mm, v_cb4_0, o_low, o_cb4, o_x5, o_cb22, o_D0, o_cb44, r_b10, nr_r_b10, r_cb4_0, nr_r_cb4_0, hb, s1, s2⟩ := hi
      have hs := hb.size
      have hk := Kp.refl (w41.heap.size) K A
      have nv_low : ¬ Iv (w41.heap.size) K b_low := fun h => Nat.not_lt.2 h.1 lt_low_1
      have nv_cb4 : ¬ Iv (w41.heap.size) K cb4 := fun h => Nat.not_lt.2 h.1 lt_cb4_1
      have nv_x5 : ¬ Iv (w41.heap.size) K b5 := fun h => Nat.not_lt.2 h.1 lt_x5_1
      have nv_cb22 : ¬ Iv (w41.heap.size) K cb22 := fun h => Nat.not_lt.2 h.1 lt_cb22_1
      have nv_D0 : ¬ Iv (w41.heap.size) K w19.heap.size := fun h => Nat.not_lt.2 h.1 lt_D0_1
      have nv_cb44 : ¬ Iv (w41.heap.size) K cb44 := fun h => Nat.not_lt.2 h.1 lt_cb44_1
      have p_xs := in_p_xs.below hb
      replace o_cb44 := hN
      have hx := hry.pre hpre
      refine W_seq (W_region (L_new (fun b => .pointer (some ⟨b, 0, none⟩)) (.cells [(.int .i32 0), (.int .i32 0)].toArray 29 (0, 0)) (by kernel_rfl) (by kernel_rfl) ?_))
      intro b45 w46 hN47
      have ne_low_x8 : b_low ≠ b45 := by have := (obj_lt o_low); have := hN47.num; omega
      have ne_x8_low := ne_low_x8.symm
      have ne_cb4_x8 : cb4 ≠ b45 := by have := (obj_lt o_cb4); have := hN47.num; omega
      have ne_x8_cb4 := ne_cb4_x8.symm
      have ne_x5_x8 : b5 ≠ b45 := by have := (obj_lt o_x5); have := hN47.num; omega
      have ne_x8_x5 := ne_x5_x8.symm
      have ne_cb22_x8 : cb22 ≠ b45 := by have := (obj_lt o_cb22); have := hN47.num; omega
      have ne_x8_cb22 := ne_cb22_x8.symm
      have ne_D0_x8 : w19.heap.size ≠ b45 := by have := (obj_lt o_D0); have := hN47.num; omega
      have ne_x8_D0 := ne_D0_x8.symm
      have ne_cb44_x8 : cb44 ≠ b45 := by have := (obj_lt o_cb44); have := hN47.num; omega
      have ne_x8_cb44 := ne_cb44_x8.symm
      have g_x8 : w.heap.size ≤ b45 := by rw [hN47.num]; exact hs
      have nv_x8 : ¬ Iv w41.heap.size K b45 := fun h => by have := h.2; have := hN47.num; omega
      replace hb := hb.trans (hN47.below.mono hs)
      replace hk := hk.ch (Ch.of_below hN47.below) hK (fun _ h => h.elim)
      replace hK := Nat.le_trans hK (hN47.below.size)
      replace hs := Nat.le_trans hs (hN47.below.size)
      replace o_low := obj_below o_low hN47.below
      replace o_cb4 := obj_below o_cb4 hN47.below
      replace o_x5 := obj_below o_x5 hN47.below
      replace o_cb22 := obj_below o_cb22 hN47.below
      replace o_D0 := obj_below o_D0 hN47.below
      replace o_cb44 := obj_below o_cb44 hN47.below
      replace p_xs := p_xs.below hN47.below
      replace r_b10 := r_b10.below hN47.below
      replace r_cb4_0 := r_cb4_0.below hN47.below
      have o_x8 := hN47.here
      refine L_storeA b45 0 [(.int .i32 x.1), (.int .i32 x.2.1)] [(.int .i32 0), (.int .i32 0)] [(.int .i32 x.1), (.int .i32 x.2.1)] 29 (by kernel_rfl) (by kernel_rfl) rfl (by kernel_rfl) o_x8 (by kernel_rfl) rfl ?_
      intro w48 hW49
      replace hb := hb.trans (hW49.below g_x8)
      replace hk := hk.ch (Ch.of_wrote hW49) hK (fun k e h => nv_x8 (e ▸ h))
      replace hK := Nat.le_trans hK (Nat.le_of_eq hW49.size.symm)
      replace hs := Nat.le_trans hs (Nat.le_of_eq hW49.size.symm)
      have n_o_low := obj_wrote o_low hW49 (obj_ne o_low o_x8 (by simp))
      have n_o_cb4 := obj_wrote o_cb4 hW49 (obj_ne o_cb4 o_x8 (by simp))
      have n_o_x5 := obj_wrote o_x5 hW49 (obj_ne o_x5 o_x8 (by simp))
      have n_o_cb22 := obj_wrote o_cb22 hW49 (obj_ne o_cb22 o_x8 (by simp))
      have n_o_D0 := obj_wrote o_D0 hW49 (obj_ne o_D0 o_x8 (by simp))
      have n_o_cb44 := obj_wrote o_cb44 hW49 (obj_ne o_cb44 o_x8 (by simp))
      have n_p_xs := in_p_xs.below hb
      have n_r_b10 := r_b10.wrote hW49 (r_b10.ne o_x8 (by simp))
      have n_r_cb4_0 := r_cb4_0.wrote hW49 (r_cb4_0.ne o_x8 (by simp))
      replace o_low := n_o_low; clear n_o_low
      replace o_cb4 := n_o_cb4; clear n_o_cb4
      replace o_x5 := n_o_x5; clear n_o_x5
      replace o_cb22 := n_o_cb22; clear n_o_cb22
      replace o_D0 := n_o_D0; clear n_o_D0
      replace o_cb44 := n_o_cb44; clear n_o_cb44
      replace p_xs := n_p_xs; clear n_p_xs
      replace r_b10 := n_r_b10; clear n_r_b10
      replace r_cb4_0 := n_r_cb4_0; clear n_r_cb4_0
      replace o_x8 := hW49.here
      refine L_nil (thenQ_normal (W_region (L_as (L_nil ?_))))
      refine thenQ_normal ⟨hk, ?_⟩
      intro w50 hc51
      replace o_low := obj_ch o_low hc51 nv_low
      replace o_cb4 := obj_ch o_cb4 hc51 nv_cb4
      replace o_x5 := obj_ch o_x5 hc51 nv_x5
      replace o_cb22 := obj_ch o_cb22 hc51 nv_cb22
      replace o_D0 := obj_ch o_D0 hc51 nv_D0
      replace o_cb44 := obj_ch o_cb44 hc51 nv_cb44
      replace o_x8 := obj_ch o_x8 hc51 nv_x8
      replace r_b10 := r_b10.ch hc51 nr_r_b10
      replace r_cb4_0 := r_cb4_0.ch hc51 nr_r_cb4_0
      replace hb := hc51.below hb hs (fun k h => Nat.le_trans hs_1 h.1)
      replace p_xs := in_p_xs.below hb
      replace hs := hb.size
      replace hK := Nat.le_trans hK hc51.size
      replace hk := Kp.refl (w41.heap.size) K w50
      refine W_block (W_region (L_load b5 0 (.pointer (some ⟨cb4, 0, none⟩)) (by kernel_rfl) (by kernel_rfl) (cell_obj o_x5 rfl) (L_loadA b45 0 [(.int .i32 x.1), (.int .i32 x.2.1)] (by kernel_rfl) (by kernel_rfl) (by kernel_rfl) (cells_at o_x8 0 (by kernel_rfl)) (L_mv (L_call 16 [(.pointer (some ⟨cb4, 0, none⟩)), (Value.agg #[(.int .i32 x.1), (.int .i32 x.2.1)]), (.int .i64 x.2.2)] (by kernel_rfl) (by kernel_rfl) (c_lay_I cb4 v_cb4_0 mm x.1 x.2.1 x.2.2 w.heap.size _ hs o_cb4 g_cb4 r_cb4_0 (by first | exact s2 | exact r2 | trivial) (by first | omega | (simp; done)) (by first | omega | (simp; done))) ?_)))))
      rintro _ w53 ⟨q52, rfl, ho56, r_q52, dm54, hC55⟩
      have hnk : ∀ k, Dm cb4 v_cb4_0 k → ¬ Iv (w41.heap.size) K k := fun k e => e.elim (fun x => by rw [x]; exact nv_cb4) (fun x => nr_r_cb4_0 k x)
      have nr_r_q52 : ∀ g, Value.ownBlock q52 = some g → ¬ Iv (w41.heap.size) K g := fun g hg => (dm54 g hg).elim (fun x y => by have := y.2; omega) (fun e => hnk g e)
      replace hk := hk.ch hC55 hK hnk
      replace hK := Nat.le_trans hK hC55.size
      replace hb := hC55.below hb hs (fun k e => e.elim (fun x => x ▸ g_cb4) (fun x => (World.ownsRow.lt r_cb4_0 k x).1))
      replace hs := Nat.le_trans hs hC55.size
      have n_o_low := obj_ch_mut o_low hC55 ne_low_cb4 (r_cb4_0.ne o_low (by simp))
      have n_o_x5 := obj_ch_mut o_x5 hC55 (obj_ne o_x5 o_cb4 (by simp)) (r_cb4_0.ne o_x5 (by simp))
      have n_o_cb22 := obj_ch_mut o_cb22 hC55 (obj_ne o_cb22 o_cb4 (by simp)) (r_cb4_0.ne o_cb22 (by simp))
      have n_o_D0 := obj_ch_mut o_D0 hC55 (obj_ne o_D0 o_cb4 (by simp)) (r_cb4_0.ne o_D0 (by simp))
      have n_o_cb44 := obj_ch_mut o_cb44 hC55 (obj_ne o_cb44 o_cb4 (by simp)) (r_cb4_0.ne o_cb44 (by simp))
      have n_o_x8 := obj_ch_mut o_x8 hC55 (obj_ne o_x8 o_cb4 (by simp)) (r_cb4_0.ne o_x8 (by simp))
      have n_p_xs := in_p_xs.below hb
      have n_r_b10 := r_b10.ch_mut hC55 (r_b10.ne o_cb4 (by simp)) (r_b10.apart r_cb4_0 (by kernel_rfl))
      replace o_low := n_o_low; clear n_o_low
      replace o_x5 := n_o_x5; clear n_o_x5
      replace o_cb22 := n_o_cb22; clear n_o_cb22
      replace o_D0 := n_o_D0; clear n_o_D0
      replace o_cb44 := n_o_cb44; clear n_o_cb44
      replace o_x8 := n_o_x8; clear n_o_x8
      replace p_xs := n_p_xs; clear n_p_xs
      replace r_b10 := n_r_b10; clear n_r_b10
      replace o_cb4 := ho56
      refine L_nil (blkQ_normal ?_)
      refine round_normal hk o_cb44 ⟨(layF eqI mm x.1 x.2.1 x.2.2), q52, o_low, o_cb4, o_x5, o_cb22, o_D0, o_cb44, r_b10, nr_r_b10, r_q52, nr_r_q52, hb, ?_, ?_⟩
      · rw [s1]; exact (layAll_snoc _ _ _).symm
      · exact layF_rise s2
    · intro K A hi hsz o_D1
      obtain ⟨mm, v_cb4_0, o_low, o_cb4, o_x5, o_cb22, o_D0, o_cb44, r_b10, nr_r_b10, r_cb4_0, nr_r_cb4_0, hb, s1, s2⟩ := hi
      have p_xs := in_p_xs.below hb
      have ne_low_D1 : b_low ≠ w41.heap.size := Nat.ne_of_lt lt_low_1
      have ne_D1_low := ne_low_D1.symm
      have ne_cb4_D1 : cb4 ≠ w41.heap.size := Nat.ne_of_lt lt_cb4_1
      have ne_D1_cb4 := ne_cb4_D1.symm
      have ne_x5_D1 : b5 ≠ w41.heap.size := Nat.ne_of_lt lt_x5_1
      have ne_D1_x5 := ne_x5_D1.symm
      have ne_cb22_D1 : cb22 ≠ w41.heap.size := Nat.ne_of_lt lt_cb22_1
      have ne_D1_cb22 := ne_cb22_D1.symm
      have ne_D0_D1 : w19.heap.size ≠ w41.heap.size := Nat.ne_of_lt lt_D0_1
      have ne_D1_D0 := ne_D0_D1.symm
      have ne_cb44_D1 : cb44 ≠ w41.heap.size := Nat.ne_of_lt lt_cb44_1
      have ne_D1_cb44 := ne_cb44_D1.symm
      have hs : w.heap.size ≤ _ := hb.size
      refine blkQ_normal (blkQ_normal (thenQ_normal (W_region (L_addN 1 1 (by omega) (by kernel_rfl) (by kernel_rfl) (L_mv (L_nil (thenQ_round (W_seq (W_region (L_run (.bool false) (by kernel_rfl) (by kernel_rfl) (L_nil (thenQ_normal (W_seq (W_false (by kernel_rfl) (W_exit (thenQ_exit (thenQ_exit (blkQ_exit (thenQ_normal (W_seq (W_region (L_load b5 0 (.pointer (some ⟨cb4, 0, none⟩)) (by kernel_rfl) (by kernel_rfl) (cell_obj o_x5 rfl) (L_as (L_nil (thenQ_normal (W_ret (end_retM (ds := [⟨.collected w41.heap.size, #[]⟩, ⟨.collected w19.heap.size, #[]⟩]) (by kernel_rfl) (Lv_mark o_D1 ?_))))))))))))))))))))))))))))
      intro w57 hW58
      replace hb := hb.trans (hW58.below hs_1)
      replace hs := Nat.le_trans hs (Nat.le_of_eq hW58.size.symm)
      have n_o_low := obj_wrote o_low hW58 (obj_ne o_low o_D1 (by simp))
      have n_o_cb4 := obj_wrote o_cb4 hW58 (obj_ne o_cb4 o_D1 (by simp))
      have n_o_x5 := obj_wrote o_x5 hW58 (obj_ne o_x5 o_D1 (by simp))
      have n_o_cb22 := obj_wrote o_cb22 hW58 (obj_ne o_cb22 o_D1 (by simp))
      have n_o_D0 := obj_wrote o_D0 hW58 ne_D0_D1
      have n_o_cb44 := obj_wrote o_cb44 hW58 (obj_ne o_cb44 o_D1 (by simp))
      have n_p_xs := in_p_xs.below hb
      have n_r_b10 := r_b10.wrote hW58 (r_b10.ne o_D1 (by simp))
      have n_r_cb4_0 := r_cb4_0.wrote hW58 (r_cb4_0.ne o_D1 (by simp))
      replace o_low := n_o_low; clear n_o_low
      replace o_cb4 := n_o_cb4; clear n_o_cb4
      replace o_x5 := n_o_x5; clear n_o_x5
      replace o_cb22 := n_o_cb22; clear n_o_cb22
      replace o_D0 := n_o_D0; clear n_o_D0
      replace o_cb44 := n_o_cb44; clear n_o_cb44
      replace p_xs := n_p_xs; clear n_p_xs
      replace r_b10 := n_r_b10; clear n_r_b10
      replace r_cb4_0 := n_r_cb4_0; clear n_r_cb4_0
      replace o_D1 := hW58.here
      refine Lv_mark o_D0 ?_
      intro w59 hW60
      replace hb := hb.trans (hW60.below hs_0)
      replace hs := Nat.le_trans hs (Nat.le_of_eq hW60.size.symm)
      have n_o_low := obj_wrote o_low hW60 (obj_ne o_low o_D0 (by simp))
      have n_o_cb4 := obj_wrote o_cb4 hW60 (obj_ne o_cb4 o_D0 (by simp))
      have n_o_x5 := obj_wrote o_x5 hW60 (obj_ne o_x5 o_D0 (by simp))
      have n_o_cb22 := obj_wrote o_cb22 hW60 (obj_ne o_cb22 o_D0 (by simp))
      have n_o_cb44 := obj_wrote o_cb44 hW60 (obj_ne o_cb44 o_D0 (by simp))
      have n_o_D1 := obj_wrote o_D1 hW60 (obj_ne o_D1 o_D0 (by simp))
      have n_p_xs := in_p_xs.below hb
      have n_r_b10 := r_b10.wrote hW60 (r_b10.ne o_D0 (by simp))
      have n_r_cb4_0 := r_cb4_0.wrote hW60 (r_cb4_0.ne o_D0 (by simp))
      replace o_low := n_o_low; clear n_o_low
      replace o_cb4 := n_o_cb4; clear n_o_cb4
      replace o_x5 := n_o_x5; clear n_o_x5
      replace o_cb22 := n_o_cb22; clear n_o_cb22
      replace o_cb44 := n_o_cb44; clear n_o_cb44
      replace o_D1 := n_o_D1; clear n_o_D1
      replace p_xs := n_p_xs; clear n_p_xs
      replace r_b10 := n_r_b10; clear n_r_b10
      replace r_cb4_0 := n_r_cb4_0; clear n_r_cb4_0
      replace o_D0 := hW60.here
      refine Lv_nil [.tmp 4] [(.pointer (some ⟨cb4, 0, none⟩))] rfl ⟨by kernel_rfl, trivial⟩ ?_
      have e51 : mm = (overF eqI xs ([] : List SpI)) := by first | exact s1 | rfl
      exact ⟨v_cb4_0, cb4, rfl, r_cb4_0.cast e51, o_cb4, g_cb4, hb⟩
    · intro K c _ x A _ h; exact h.elim
  · intro K c _ x A _ h; exact h.elim


set_option maxHeartbeats 4000000 in
set_option maxRecDepth 100000 in
theorem c_turn_IB (b_m : Nat) (v_xs : Value) (xs : List (Int × Int × Int)) (w : World) (o_m : w.heap[b_m]? = some (.cells [v_xs, (.bool true)].toArray 109 (0, 0))) (p_xs : Rd w encSpanI v_xs xs) (hrx : RiseG 0 xs) :
    Calls Try.prog 31 #[(.pointer (some ⟨b_m, 0, none⟩)), (.func (.func 32) #[] #[])] w (Ret fun v w' => ∃ (q0 : Value) (cb0 : Nat), v = (.pointer (some ⟨cb0, 0, none⟩)) ∧ Row w' w.heap.size 127 3 encSpanB q0 (turnAll eqB evenB xs) ∧ w'.heap[cb0]? = some (.cells [q0, (.bool true)].toArray 123 (0, 0)) ∧ w.heap.size ≤ cb0 ∧ Below w.heap.size w w') := by
  refine enterM (args := [(.pointer (some ⟨b_m, 0, none⟩)), (.func (.func 32) #[] #[])]) Try.func31 rfl (by kernel_rfl : _ = 24) (by kernel_rfl) ?_
  have hb := Below.refl w.heap.size w
  have hs : w.heap.size ≤ w.heap.size := Nat.le_refl _
  have in_p_xs := p_xs
  have hlx := hrx.len
  refine W_seq (W_region (L_new (fun b => .pointer (some ⟨b, 0, none⟩)) (.cells [(.func (.func 32) #[] #[])].toArray 69 (0, 0)) (by kernel_rfl) (by kernel_rfl) ?_))
  intro b1 w2 hN3
  have ne_m_x3 : b_m ≠ b1 := by have := (obj_lt o_m); have := hN3.num; omega
  have ne_x3_m := ne_m_x3.symm
  have g_x3 : w.heap.size ≤ b1 := by rw [hN3.num]; exact hs
  replace hb := hb.trans (hN3.below.mono hs)
  replace hs := Nat.le_trans hs (hN3.below.size)
  replace o_m := obj_below o_m hN3.below
  replace p_xs := p_xs.below hN3.below
  have o_x3 := hN3.here
  refine L_as (L_nil (thenQ_normal (W_seq (W_region (L_call 20 [] (by kernel_rfl) (by kernel_rfl) (c_new_B  _ ) ?_)))))
  rintro _ w4 ⟨cb7, rfl, o_cb7, g_cb7, hB5⟩
  have ne_m_cb7 : b_m ≠ cb7 := by have := (obj_lt o_m); omega
  have ne_cb7_m := ne_m_cb7.symm
  have ne_x3_cb7 : b1 ≠ cb7 := by have := (obj_lt o_x3); omega
  have ne_cb7_x3 := ne_x3_cb7.symm
  replace g_cb7 := Nat.le_trans hs g_cb7
  replace hb := hb.trans (hB5.mono hs)
  replace hs := Nat.le_trans hs (hB5.size)
  replace o_m := obj_below o_m hB5
  replace o_x3 := obj_below o_x3 hB5
  replace p_xs := p_xs.below hB5
  refine L_new (fun b => .pointer (some ⟨b, 0, none⟩)) (.cells [(.pointer none)].toArray 54 (0, 0)) (by kernel_rfl) (by kernel_rfl) ?_
  intro b8 w9 hN10
  have ne_m_x5 : b_m ≠ b8 := by have := (obj_lt o_m); have := hN10.num; omega
  have ne_x5_m := ne_m_x5.symm
  have ne_x3_x5 : b1 ≠ b8 := by have := (obj_lt o_x3); have := hN10.num; omega
  have ne_x5_x3 := ne_x3_x5.symm
  have ne_cb7_x5 : cb7 ≠ b8 := by have := (obj_lt o_cb7); have := hN10.num; omega
  have ne_x5_cb7 := ne_cb7_x5.symm
  have g_x5 : w.heap.size ≤ b8 := by rw [hN10.num]; exact hs
  replace hb := hb.trans (hN10.below.mono hs)
  replace hs := Nat.le_trans hs (hN10.below.size)
  replace o_m := obj_below o_m hN10.below
  replace o_x3 := obj_below o_x3 hN10.below
  replace o_cb7 := obj_below o_cb7 hN10.below
  replace p_xs := p_xs.below hN10.below
  have o_x5 := hN10.here
  refine L_store b8 0 (.pointer (some ⟨cb7, 0, none⟩)) [(.pointer none)] [(.pointer (some ⟨cb7, 0, none⟩))] 54 (by kernel_rfl) (by kernel_rfl) rfl (by kernel_rfl) o_x5 (by simp) rfl ?_
  intro w11 hW12
  replace hb := hb.trans (hW12.below g_x5)
  replace hs := Nat.le_trans hs (Nat.le_of_eq hW12.size.symm)
  have n_o_m := obj_wrote o_m hW12 (obj_ne o_m o_x5 (by simp))
  have n_o_x3 := obj_wrote o_x3 hW12 (obj_ne o_x3 o_x5 (by simp))
  have n_o_cb7 := obj_wrote o_cb7 hW12 (obj_ne o_cb7 o_x5 (by simp))
  have n_p_xs := in_p_xs.below hb
  replace o_m := n_o_m; clear n_o_m
  replace o_x3 := n_o_x3; clear n_o_x3
  replace o_cb7 := n_o_cb7; clear n_o_cb7
  replace p_xs := n_p_xs; clear n_p_xs
  replace o_x5 := hW12.here
  refine L_nil (thenQ_normal (W_seq (W_seq (W_region (L_mv (L_call 61 [(.pointer (some ⟨b_m, 0, none⟩))] (by kernel_rfl) (by kernel_rfl) (c_all_I b_m v_xs xs _ o_m p_xs) ?_))))))
  rintro _ w13 ⟨cb16, rfl, o_cb16, g_cb16, hB14⟩
  have ne_m_cb16 : b_m ≠ cb16 := by have := (obj_lt o_m); omega
  have ne_cb16_m := ne_m_cb16.symm
  have ne_x3_cb16 : b1 ≠ cb16 := by have := (obj_lt o_x3); omega
  have ne_cb16_x3 := ne_x3_cb16.symm
  have ne_cb7_cb16 : cb7 ≠ cb16 := by have := (obj_lt o_cb7); omega
  have ne_cb16_cb7 := ne_cb7_cb16.symm
  have ne_x5_cb16 : b8 ≠ cb16 := by have := (obj_lt o_x5); omega
  have ne_cb16_x5 := ne_x5_cb16.symm
  replace g_cb16 := Nat.le_trans hs g_cb16
  replace hb := hb.trans (hB14.mono hs)
  replace hs := Nat.le_trans hs (hB14.size)
  replace o_m := obj_below o_m hB14
  replace o_x3 := obj_below o_x3 hB14
  replace o_cb7 := obj_below o_cb7 hB14
  replace o_x5 := obj_below o_x5 hB14
  replace p_xs := p_xs.below hB14
  refine L_nil (thenQ_normal (W_block ?_))
  have lt_m_0 : b_m < w13.heap.size := obj_lt o_m
  have lt_x3_0 : b1 < w13.heap.size := obj_lt o_x3
  have lt_cb7_0 : cb7 < w13.heap.size := obj_lt o_cb7
  have lt_x5_0 : b8 < w13.heap.size := obj_lt o_x5
  have lt_cb16_0 : cb16 < w13.heap.size := obj_lt o_cb16
  have hs_0 := hs
  have hb_0 := hb
  refine W_range 103 [(.pointer (some ⟨cb16, 0, none⟩))] xs (by kernel_rfl) (fun _ _ => rfl) (it_all_I cb16 b_m v_xs xs (by omega)) ⟨o_cb16, o_m, p_xs⟩ ((fun D A B h hc hd => ⟨obj_ch h.1 hc (fun h => Nat.not_lt.2 (hd _ h) lt_cb16_0), obj_ch h.2.1 hc (fun h => Nat.not_lt.2 (hd _ h) lt_m_0), Rd.ch p_xs (Nat.le_refl _) h.2.2 hc hd⟩)) (by intro x; rfl) (fun K pre A => ∃ (mm : List SpB) (v_cb7_0 : Value), (A.heap[b_m]? = some (.cells [v_xs, (.bool true)].toArray 109 (0, 0))) ∧ (A.heap[b1]? = some (.cells [(.func (.func 32) #[] #[])].toArray 69 (0, 0))) ∧ (A.heap[cb7]? = some (.cells [v_cb7_0, (.bool true)].toArray 123 (0, 0))) ∧ (A.heap[b8]? = some (.cells [(.pointer (some ⟨cb7, 0, none⟩))].toArray 54 (0, 0))) ∧ (A.heap[cb16]? = some (.cells [(.pointer (some ⟨b_m, 0, none⟩))].toArray 41 (0, 0))) ∧ (Row A w.heap.size 127 3 encSpanB v_cb7_0 mm) ∧ (∀ g, Value.ownBlock v_cb7_0 = some g → ¬ Iv w13.heap.size K g) ∧ (Below w.heap.size w A) ∧ (mm = turnAll eqB evenB pre) ∧ (RiseG 0 mm)) (fun K c pre A => False) ?_ ?_ ?_ ?_ ?_ ?_
  · intro A hA
    exact ⟨[], (.slice none 0 0), obj_below o_m hA, obj_below o_x3 hA, obj_below o_cb7 hA, obj_below o_x5 hA, obj_below o_cb16 hA, Row.nil _ _ _ _ _, nr_nil _ _, hb.trans (hA.mono hs), by rfl, by trivial⟩
  · rintro K pre A B ⟨mm, v_cb7_0, o_m, o_x3, o_cb7, o_x5, o_cb16, r_cb7_0, nr_r_cb7_0, hb, r1, r2⟩ hc
    exact ⟨mm, v_cb7_0, obj_ch o_m hc (fun h => Nat.not_lt.2 h.1 lt_m_0), obj_ch o_x3 hc (fun h => Nat.not_lt.2 h.1 lt_x3_0), obj_ch o_cb7 hc (fun h => Nat.not_lt.2 h.1 lt_cb7_0), obj_ch o_x5 hc (fun h => Nat.not_lt.2 h.1 lt_x5_0), obj_ch o_cb16 hc (fun h => Nat.not_lt.2 h.1 lt_cb16_0), r_cb7_0.ch hc nr_r_cb7_0, nr_r_cb7_0, hc.below hb hb.size (fun k h => Nat.le_trans hs_0 h.1), r1, r2⟩
  · intro K c _ A B h hc; exact h.elim
  · intro l K pre x A hi hN hK0 hK hpre
    obtain ⟨mm, v_cb7_0, o_m, o_x3, o_cb7, o_x5, o_cb16, r_cb7_0, nr_r_cb7_0, hb, r1, r2⟩ := hi
    have hs := hb.size
    have hk := Kp.refl (w13.heap.size) K A
    have nv_m : ¬ Iv (w13.heap.size) K b_m := fun h => Nat.not_lt.2 h.1 lt_m_0
    have nv_x3 : ¬ Iv (w13.heap.size) K b1 := fun h => Nat.not_lt.2 h.1 lt_x3_0
    have nv_cb7 : ¬ Iv (w13.heap.size) K cb7 := fun h => Nat.not_lt.2 h.1 lt_cb7_0
    have nv_x5 : ¬ Iv (w13.heap.size) K b8 := fun h => Nat.not_lt.2 h.1 lt_x5_0
    have nv_cb16 : ¬ Iv (w13.heap.size) K cb16 := fun h => Nat.not_lt.2 h.1 lt_cb16_0
    have p_xs := in_p_xs.below hb
    replace o_cb16 := hN.1
    replace o_m := hN.2.1
    have hx := hrx.pre hpre
    refine W_seq (W_region (L_new (fun b => .pointer (some ⟨b, 0, none⟩)) (.cells [(.int .i32 0), (.int .i32 0)].toArray 29 (0, 0)) (by kernel_rfl) (by kernel_rfl) ?_))
    intro b17 w18 hN19
    have ne_m_x6 : b_m ≠ b17 := by have := (obj_lt o_m); have := hN19.num; omega
    have ne_x6_m := ne_m_x6.symm
    have ne_x3_x6 : b1 ≠ b17 := by have := (obj_lt o_x3); have := hN19.num; omega
    have ne_x6_x3 := ne_x3_x6.symm
    have ne_cb7_x6 : cb7 ≠ b17 := by have := (obj_lt o_cb7); have := hN19.num; omega
    have ne_x6_cb7 := ne_cb7_x6.symm
    have ne_x5_x6 : b8 ≠ b17 := by have := (obj_lt o_x5); have := hN19.num; omega
    have ne_x6_x5 := ne_x5_x6.symm
    have ne_cb16_x6 : cb16 ≠ b17 := by have := (obj_lt o_cb16); have := hN19.num; omega
    have ne_x6_cb16 := ne_cb16_x6.symm
    have g_x6 : w.heap.size ≤ b17 := by rw [hN19.num]; exact hs
    have nv_x6 : ¬ Iv w13.heap.size K b17 := fun h => by have := h.2; have := hN19.num; omega
    replace hb := hb.trans (hN19.below.mono hs)
    replace hk := hk.ch (Ch.of_below hN19.below) hK (fun _ h => h.elim)
    replace hK := Nat.le_trans hK (hN19.below.size)
    replace hs := Nat.le_trans hs (hN19.below.size)
    replace o_m := obj_below o_m hN19.below
    replace o_x3 := obj_below o_x3 hN19.below
    replace o_cb7 := obj_below o_cb7 hN19.below
    replace o_x5 := obj_below o_x5 hN19.below
    replace o_cb16 := obj_below o_cb16 hN19.below
    replace p_xs := p_xs.below hN19.below
    replace r_cb7_0 := r_cb7_0.below hN19.below
    have o_x6 := hN19.here
    refine L_storeA b17 0 [(.int .i32 x.1), (.int .i32 x.2.1)] [(.int .i32 0), (.int .i32 0)] [(.int .i32 x.1), (.int .i32 x.2.1)] 29 (by kernel_rfl) (by kernel_rfl) rfl (by kernel_rfl) o_x6 (by kernel_rfl) rfl ?_
    intro w20 hW21
    replace hb := hb.trans (hW21.below g_x6)
    replace hk := hk.ch (Ch.of_wrote hW21) hK (fun k e h => nv_x6 (e ▸ h))
    replace hK := Nat.le_trans hK (Nat.le_of_eq hW21.size.symm)
    replace hs := Nat.le_trans hs (Nat.le_of_eq hW21.size.symm)
    have n_o_m := obj_wrote o_m hW21 (obj_ne o_m o_x6 (by simp))
    have n_o_x3 := obj_wrote o_x3 hW21 (obj_ne o_x3 o_x6 (by simp))
    have n_o_cb7 := obj_wrote o_cb7 hW21 (obj_ne o_cb7 o_x6 (by simp))
    have n_o_x5 := obj_wrote o_x5 hW21 (obj_ne o_x5 o_x6 (by simp))
    have n_o_cb16 := obj_wrote o_cb16 hW21 (obj_ne o_cb16 o_x6 (by simp))
    have n_p_xs := in_p_xs.below hb
    have n_r_cb7_0 := r_cb7_0.wrote hW21 (r_cb7_0.ne o_x6 (by simp))
    replace o_m := n_o_m; clear n_o_m
    replace o_x3 := n_o_x3; clear n_o_x3
    replace o_cb7 := n_o_cb7; clear n_o_cb7
    replace o_x5 := n_o_x5; clear n_o_x5
    replace o_cb16 := n_o_cb16; clear n_o_cb16
    replace p_xs := n_p_xs; clear n_p_xs
    replace r_cb7_0 := n_r_cb7_0; clear n_r_cb7_0
    replace o_x6 := hW21.here
    refine L_nil (thenQ_normal (W_region (L_as (L_nil ?_))))
    refine thenQ_normal ⟨hk, ?_⟩
    intro w22 hc23
    replace o_m := obj_ch o_m hc23 nv_m
    replace o_x3 := obj_ch o_x3 hc23 nv_x3
    replace o_cb7 := obj_ch o_cb7 hc23 nv_cb7
    replace o_x5 := obj_ch o_x5 hc23 nv_x5
    replace o_cb16 := obj_ch o_cb16 hc23 nv_cb16
    replace o_x6 := obj_ch o_x6 hc23 nv_x6
    replace r_cb7_0 := r_cb7_0.ch hc23 nr_r_cb7_0
    replace hb := hc23.below hb hs (fun k h => Nat.le_trans hs_0 h.1)
    replace p_xs := in_p_xs.below hb
    replace hs := hb.size
    replace hK := Nat.le_trans hK hc23.size
    replace hk := Kp.refl (w13.heap.size) K w22
    refine W_block (W_seq (W_region (L_as (L_nil (thenQ_normal (W_seq (W_seq (W_region (L_load b1 0 (.func (.func 32) #[] #[]) (by kernel_rfl) (by kernel_rfl) (cell_obj o_x3 rfl) (L_run (.bool true) (by kernel_rfl) (by kernel_rfl) (L_nil (thenQ_normal (W_true (by kernel_rfl) (W_region (L_load b1 0 (.func (.func 32) #[] #[]) (by kernel_rfl) (by kernel_rfl) (cell_obj o_x3 rfl) (L_mv (L_call 32 [(.int .i64 x.2.2)] (by kernel_rfl) (by kernel_rfl) (c_even x.2.2 _ ) ?_)))))))))))))))))
    rintro _ w24 ⟨rfl, hB25⟩
    replace hb := hb.trans (hB25.mono hs)
    replace hk := hk.ch (Ch.of_below hB25) hK (fun _ h => h.elim)
    replace hK := Nat.le_trans hK (hB25.size)
    replace hs := Nat.le_trans hs (hB25.size)
    replace o_m := obj_below o_m hB25
    replace o_x3 := obj_below o_x3 hB25
    replace o_cb7 := obj_below o_cb7 hB25
    replace o_x5 := obj_below o_x5 hB25
    replace o_cb16 := obj_below o_cb16 hB25
    replace o_x6 := obj_below o_x6 hB25
    replace p_xs := p_xs.below hB25
    replace r_cb7_0 := r_cb7_0.below hB25
    refine put_split (evenB x.2.2) ?_ ?_
    · intro h27
      refine L_as (L_nil (thenQ_normal (W_region (L_load b8 0 (.pointer (some ⟨cb7, 0, none⟩)) (by kernel_rfl) (by kernel_rfl) (cell_obj o_x5 rfl) (L_loadA b17 0 [(.int .i32 x.1), (.int .i32 x.2.1)] (by kernel_rfl) (by kernel_rfl) (by kernel_rfl) (cells_at o_x6 0 (by kernel_rfl)) (L_mv (L_call 22 [(.pointer (some ⟨cb7, 0, none⟩)), (Value.agg #[(.int .i32 x.1), (.int .i32 x.2.1)]), (.bool true)] (by kernel_rfl) (by kernel_rfl) (c_lay_B cb7 v_cb7_0 mm x.1 x.2.1 true w.heap.size _ hs o_cb7 g_cb7 r_cb7_0 (by exact r2) (by omega) (by omega)) ?_)))))))
      rintro _ w29 ⟨q28, rfl, ho32, r_q28, dm30, hC31⟩
      have hnk : ∀ k, Dm cb7 v_cb7_0 k → ¬ Iv (w13.heap.size) K k := fun k e => e.elim (fun x => by rw [x]; exact nv_cb7) (fun x => nr_r_cb7_0 k x)
      have nr_r_q28 : ∀ g, Value.ownBlock q28 = some g → ¬ Iv (w13.heap.size) K g := fun g hg => (dm30 g hg).elim (fun x y => by have := y.2; omega) (fun e => hnk g e)
      replace hk := hk.ch hC31 hK hnk
      replace hK := Nat.le_trans hK hC31.size
      replace hb := hC31.below hb hs (fun k e => e.elim (fun x => x ▸ g_cb7) (fun x => (World.ownsRow.lt r_cb7_0 k x).1))
      replace hs := Nat.le_trans hs hC31.size
      have n_o_m := obj_ch_mut o_m hC31 (obj_ne o_m o_cb7 (by simp)) (r_cb7_0.ne o_m (by simp))
      have n_o_x3 := obj_ch_mut o_x3 hC31 (obj_ne o_x3 o_cb7 (by simp)) (r_cb7_0.ne o_x3 (by simp))
      have n_o_x5 := obj_ch_mut o_x5 hC31 (obj_ne o_x5 o_cb7 (by simp)) (r_cb7_0.ne o_x5 (by simp))
      have n_o_cb16 := obj_ch_mut o_cb16 hC31 (obj_ne o_cb16 o_cb7 (by simp)) (r_cb7_0.ne o_cb16 (by simp))
      have n_o_x6 := obj_ch_mut o_x6 hC31 (obj_ne o_x6 o_cb7 (by simp)) (r_cb7_0.ne o_x6 (by simp))
      have n_p_xs := in_p_xs.below hb
      replace o_m := n_o_m; clear n_o_m
      replace o_x3 := n_o_x3; clear n_o_x3
      replace o_x5 := n_o_x5; clear n_o_x5
      replace o_cb16 := n_o_cb16; clear n_o_cb16
      replace o_x6 := n_o_x6; clear n_o_x6
      replace p_xs := n_p_xs; clear n_p_xs
      replace o_cb7 := ho32
      refine L_nil (blkQ_normal ?_)
      refine round_normal hk ⟨o_cb16, o_m, p_xs⟩ ⟨(layF eqB mm x.1 x.2.1 true), q28, o_m, o_x3, o_cb7, o_x5, o_cb16, r_q28, nr_r_q28, hb, ?_, ?_⟩
      · first | (rw [r1]; exact (turnAll_snoc _ _ _).symm) | (rw [turnAll_snoc, r1]; congr 1; symm; assumption)
      · exact layF_rise r2
    · intro h33
      refine L_as (L_nil (thenQ_normal (W_region (L_load b8 0 (.pointer (some ⟨cb7, 0, none⟩)) (by kernel_rfl) (by kernel_rfl) (cell_obj o_x5 rfl) (L_loadA b17 0 [(.int .i32 x.1), (.int .i32 x.2.1)] (by kernel_rfl) (by kernel_rfl) (by kernel_rfl) (cells_at o_x6 0 (by kernel_rfl)) (L_mv (L_call 22 [(.pointer (some ⟨cb7, 0, none⟩)), (Value.agg #[(.int .i32 x.1), (.int .i32 x.2.1)]), (.bool false)] (by kernel_rfl) (by kernel_rfl) (c_lay_B cb7 v_cb7_0 mm x.1 x.2.1 false w.heap.size _ hs o_cb7 g_cb7 r_cb7_0 (by exact r2) (by omega) (by omega)) ?_)))))))
      rintro _ w35 ⟨q34, rfl, ho38, r_q34, dm36, hC37⟩
      have hnk : ∀ k, Dm cb7 v_cb7_0 k → ¬ Iv (w13.heap.size) K k := fun k e => e.elim (fun x => by rw [x]; exact nv_cb7) (fun x => nr_r_cb7_0 k x)
      have nr_r_q34 : ∀ g, Value.ownBlock q34 = some g → ¬ Iv (w13.heap.size) K g := fun g hg => (dm36 g hg).elim (fun x y => by have := y.2; omega) (fun e => hnk g e)
      replace hk := hk.ch hC37 hK hnk
      replace hK := Nat.le_trans hK hC37.size
      replace hb := hC37.below hb hs (fun k e => e.elim (fun x => x ▸ g_cb7) (fun x => (World.ownsRow.lt r_cb7_0 k x).1))
      replace hs := Nat.le_trans hs hC37.size
      have n_o_m := obj_ch_mut o_m hC37 (obj_ne o_m o_cb7 (by simp)) (r_cb7_0.ne o_m (by simp))
      have n_o_x3 := obj_ch_mut o_x3 hC37 (obj_ne o_x3 o_cb7 (by simp)) (r_cb7_0.ne o_x3 (by simp))
      have n_o_x5 := obj_ch_mut o_x5 hC37 (obj_ne o_x5 o_cb7 (by simp)) (r_cb7_0.ne o_x5 (by simp))
      have n_o_cb16 := obj_ch_mut o_cb16 hC37 (obj_ne o_cb16 o_cb7 (by simp)) (r_cb7_0.ne o_cb16 (by simp))
      have n_o_x6 := obj_ch_mut o_x6 hC37 (obj_ne o_x6 o_cb7 (by simp)) (r_cb7_0.ne o_x6 (by simp))
      have n_p_xs := in_p_xs.below hb
      replace o_m := n_o_m; clear n_o_m
      replace o_x3 := n_o_x3; clear n_o_x3
      replace o_x5 := n_o_x5; clear n_o_x5
      replace o_cb16 := n_o_cb16; clear n_o_cb16
      replace o_x6 := n_o_x6; clear n_o_x6
      replace p_xs := n_p_xs; clear n_p_xs
      replace o_cb7 := ho38
      refine L_nil (blkQ_normal ?_)
      refine round_normal hk ⟨o_cb16, o_m, p_xs⟩ ⟨(layF eqB mm x.1 x.2.1 false), q34, o_m, o_x3, o_cb7, o_x5, o_cb16, r_q34, nr_r_q34, hb, ?_, ?_⟩
      · first | (rw [r1]; exact (turnAll_snoc _ _ _).symm) | (rw [turnAll_snoc, r1]; congr 1; symm; assumption)
      · exact layF_rise r2
  · intro K A hi hsz o_D0
    obtain ⟨mm, v_cb7_0, o_m, o_x3, o_cb7, o_x5, o_cb16, r_cb7_0, nr_r_cb7_0, hb, r1, r2⟩ := hi
    have p_xs := in_p_xs.below hb
    have ne_m_D0 : b_m ≠ w13.heap.size := Nat.ne_of_lt lt_m_0
    have ne_D0_m := ne_m_D0.symm
    have ne_x3_D0 : b1 ≠ w13.heap.size := Nat.ne_of_lt lt_x3_0
    have ne_D0_x3 := ne_x3_D0.symm
    have ne_cb7_D0 : cb7 ≠ w13.heap.size := Nat.ne_of_lt lt_cb7_0
    have ne_D0_cb7 := ne_cb7_D0.symm
    have ne_x5_D0 : b8 ≠ w13.heap.size := Nat.ne_of_lt lt_x5_0
    have ne_D0_x5 := ne_x5_D0.symm
    have ne_cb16_D0 : cb16 ≠ w13.heap.size := Nat.ne_of_lt lt_cb16_0
    have ne_D0_cb16 := ne_cb16_D0.symm
    have hs : w.heap.size ≤ _ := hb.size
    refine blkQ_normal (thenQ_normal (W_seq (W_region (L_load b8 0 (.pointer (some ⟨cb7, 0, none⟩)) (by kernel_rfl) (by kernel_rfl) (cell_obj o_x5 rfl) (L_as (L_nil (thenQ_normal (W_ret (end_retM (ds := [⟨.collected w13.heap.size, #[]⟩]) (by kernel_rfl) (Lv_mark o_D0 ?_))))))))))
    intro w39 hW40
    replace hb := hb.trans (hW40.below hs_0)
    replace hs := Nat.le_trans hs (Nat.le_of_eq hW40.size.symm)
    have n_o_m := obj_wrote o_m hW40 (obj_ne o_m o_D0 (by simp))
    have n_o_x3 := obj_wrote o_x3 hW40 (obj_ne o_x3 o_D0 (by simp))
    have n_o_cb7 := obj_wrote o_cb7 hW40 (obj_ne o_cb7 o_D0 (by simp))
    have n_o_x5 := obj_wrote o_x5 hW40 (obj_ne o_x5 o_D0 (by simp))
    have n_o_cb16 := obj_wrote o_cb16 hW40 (obj_ne o_cb16 o_D0 (by simp))
    have n_p_xs := in_p_xs.below hb
    have n_r_cb7_0 := r_cb7_0.wrote hW40 (r_cb7_0.ne o_D0 (by simp))
    replace o_m := n_o_m; clear n_o_m
    replace o_x3 := n_o_x3; clear n_o_x3
    replace o_cb7 := n_o_cb7; clear n_o_cb7
    replace o_x5 := n_o_x5; clear n_o_x5
    replace o_cb16 := n_o_cb16; clear n_o_cb16
    replace p_xs := n_p_xs; clear n_p_xs
    replace r_cb7_0 := n_r_cb7_0; clear n_r_cb7_0
    replace o_D0 := hW40.here
    refine Lv_nil [.tmp 4] [(.pointer (some ⟨cb7, 0, none⟩))] rfl ⟨by kernel_rfl, trivial⟩ ?_
    have e51 : mm = (turnAll eqB evenB xs) := by first | exact r1 | rfl
    exact ⟨v_cb7_0, cb7, rfl, r_cb7_0.cast e51, o_cb7, g_cb7, hb⟩
  · intro K c _ x A _ h; exact h.elim

set_option maxHeartbeats 4000000 in
set_option maxRecDepth 100000 in
theorem c_turn_BS (b_m : Nat) (v_xs : Value) (xs : List (Int × Int × Bool)) (w : World) (o_m : w.heap[b_m]? = some (.cells [v_xs, (.bool true)].toArray 123 (0, 0))) (p_xs : Rd w encSpanB v_xs xs) (hrx : RiseG 0 xs) :
    Calls Try.prog 30 #[(.pointer (some ⟨b_m, 0, none⟩)), (.func (.func 33) #[] #[])] w (Ret fun v w' => ∃ (q0 : Value) (cb0 : Nat), v = (.pointer (some ⟨cb0, 0, none⟩)) ∧ Row w' w.heap.size 138 3 encSpanS q0 (turnAll eqS tellB xs) ∧ w'.heap[cb0]? = some (.cells [q0, (.bool true)].toArray 136 (0, 0)) ∧ w.heap.size ≤ cb0 ∧ Below w.heap.size w w') := by
  refine enterM (args := [(.pointer (some ⟨b_m, 0, none⟩)), (.func (.func 33) #[] #[])]) Try.func30 rfl (by kernel_rfl : _ = 24) (by kernel_rfl) ?_
  have hb := Below.refl w.heap.size w
  have hs : w.heap.size ≤ w.heap.size := Nat.le_refl _
  have in_p_xs := p_xs
  have hlx := hrx.len
  refine W_seq (W_region (L_new (fun b => .pointer (some ⟨b, 0, none⟩)) (.cells [(.func (.func 33) #[] #[])].toArray 70 (0, 0)) (by kernel_rfl) (by kernel_rfl) ?_))
  intro b1 w2 hN3
  have ne_m_x3 : b_m ≠ b1 := by have := (obj_lt o_m); have := hN3.num; omega
  have ne_x3_m := ne_m_x3.symm
  have g_x3 : w.heap.size ≤ b1 := by rw [hN3.num]; exact hs
  replace hb := hb.trans (hN3.below.mono hs)
  replace hs := Nat.le_trans hs (hN3.below.size)
  replace o_m := obj_below o_m hN3.below
  replace p_xs := p_xs.below hN3.below
  have o_x3 := hN3.here
  refine L_as (L_nil (thenQ_normal (W_seq (W_region (L_call 41 [] (by kernel_rfl) (by kernel_rfl) (c_new_S  _ ) ?_)))))
  rintro _ w4 ⟨cb7, rfl, o_cb7, g_cb7, hB5⟩
  have ne_m_cb7 : b_m ≠ cb7 := by have := (obj_lt o_m); omega
  have ne_cb7_m := ne_m_cb7.symm
  have ne_x3_cb7 : b1 ≠ cb7 := by have := (obj_lt o_x3); omega
  have ne_cb7_x3 := ne_x3_cb7.symm
  replace g_cb7 := Nat.le_trans hs g_cb7
  replace hb := hb.trans (hB5.mono hs)
  replace hs := Nat.le_trans hs (hB5.size)
  replace o_m := obj_below o_m hB5
  replace o_x3 := obj_below o_x3 hB5
  replace p_xs := p_xs.below hB5
  refine L_new (fun b => .pointer (some ⟨b, 0, none⟩)) (.cells [(.pointer none)].toArray 66 (0, 0)) (by kernel_rfl) (by kernel_rfl) ?_
  intro b8 w9 hN10
  have ne_m_x5 : b_m ≠ b8 := by have := (obj_lt o_m); have := hN10.num; omega
  have ne_x5_m := ne_m_x5.symm
  have ne_x3_x5 : b1 ≠ b8 := by have := (obj_lt o_x3); have := hN10.num; omega
  have ne_x5_x3 := ne_x3_x5.symm
  have ne_cb7_x5 : cb7 ≠ b8 := by have := (obj_lt o_cb7); have := hN10.num; omega
  have ne_x5_cb7 := ne_cb7_x5.symm
  have g_x5 : w.heap.size ≤ b8 := by rw [hN10.num]; exact hs
  replace hb := hb.trans (hN10.below.mono hs)
  replace hs := Nat.le_trans hs (hN10.below.size)
  replace o_m := obj_below o_m hN10.below
  replace o_x3 := obj_below o_x3 hN10.below
  replace o_cb7 := obj_below o_cb7 hN10.below
  replace p_xs := p_xs.below hN10.below
  have o_x5 := hN10.here
  refine L_store b8 0 (.pointer (some ⟨cb7, 0, none⟩)) [(.pointer none)] [(.pointer (some ⟨cb7, 0, none⟩))] 66 (by kernel_rfl) (by kernel_rfl) rfl (by kernel_rfl) o_x5 (by simp) rfl ?_
  intro w11 hW12
  replace hb := hb.trans (hW12.below g_x5)
  replace hs := Nat.le_trans hs (Nat.le_of_eq hW12.size.symm)
  have n_o_m := obj_wrote o_m hW12 (obj_ne o_m o_x5 (by simp))
  have n_o_x3 := obj_wrote o_x3 hW12 (obj_ne o_x3 o_x5 (by simp))
  have n_o_cb7 := obj_wrote o_cb7 hW12 (obj_ne o_cb7 o_x5 (by simp))
  have n_p_xs := in_p_xs.below hb
  replace o_m := n_o_m; clear n_o_m
  replace o_x3 := n_o_x3; clear n_o_x3
  replace o_cb7 := n_o_cb7; clear n_o_cb7
  replace p_xs := n_p_xs; clear n_p_xs
  replace o_x5 := hW12.here
  refine L_nil (thenQ_normal (W_seq (W_seq (W_region (L_mv (L_call 26 [(.pointer (some ⟨b_m, 0, none⟩))] (by kernel_rfl) (by kernel_rfl) (c_all_B b_m v_xs xs _ o_m p_xs) ?_))))))
  rintro _ w13 ⟨cb16, rfl, o_cb16, g_cb16, hB14⟩
  have ne_m_cb16 : b_m ≠ cb16 := by have := (obj_lt o_m); omega
  have ne_cb16_m := ne_m_cb16.symm
  have ne_x3_cb16 : b1 ≠ cb16 := by have := (obj_lt o_x3); omega
  have ne_cb16_x3 := ne_x3_cb16.symm
  have ne_cb7_cb16 : cb7 ≠ cb16 := by have := (obj_lt o_cb7); omega
  have ne_cb16_cb7 := ne_cb7_cb16.symm
  have ne_x5_cb16 : b8 ≠ cb16 := by have := (obj_lt o_x5); omega
  have ne_cb16_x5 := ne_x5_cb16.symm
  replace g_cb16 := Nat.le_trans hs g_cb16
  replace hb := hb.trans (hB14.mono hs)
  replace hs := Nat.le_trans hs (hB14.size)
  replace o_m := obj_below o_m hB14
  replace o_x3 := obj_below o_x3 hB14
  replace o_cb7 := obj_below o_cb7 hB14
  replace o_x5 := obj_below o_x5 hB14
  replace p_xs := p_xs.below hB14
  refine L_nil (thenQ_normal (W_block ?_))
  have lt_m_0 : b_m < w13.heap.size := obj_lt o_m
  have lt_x3_0 : b1 < w13.heap.size := obj_lt o_x3
  have lt_cb7_0 : cb7 < w13.heap.size := obj_lt o_cb7
  have lt_x5_0 : b8 < w13.heap.size := obj_lt o_x5
  have lt_cb16_0 : cb16 < w13.heap.size := obj_lt o_cb16
  have hs_0 := hs
  have hb_0 := hb
  refine W_range 69 [(.pointer (some ⟨cb16, 0, none⟩))] xs (by kernel_rfl) (fun _ _ => rfl) (it_all_B cb16 b_m v_xs xs (by omega)) ⟨o_cb16, o_m, p_xs⟩ ((fun D A B h hc hd => ⟨obj_ch h.1 hc (fun h => Nat.not_lt.2 (hd _ h) lt_cb16_0), obj_ch h.2.1 hc (fun h => Nat.not_lt.2 (hd _ h) lt_m_0), Rd.ch p_xs (Nat.le_refl _) h.2.2 hc hd⟩)) (by intro x; rfl) (fun K pre A => ∃ (mm : List SpS) (v_cb7_0 : Value), (A.heap[b_m]? = some (.cells [v_xs, (.bool true)].toArray 123 (0, 0))) ∧ (A.heap[b1]? = some (.cells [(.func (.func 33) #[] #[])].toArray 70 (0, 0))) ∧ (A.heap[cb7]? = some (.cells [v_cb7_0, (.bool true)].toArray 136 (0, 0))) ∧ (A.heap[b8]? = some (.cells [(.pointer (some ⟨cb7, 0, none⟩))].toArray 66 (0, 0))) ∧ (A.heap[cb16]? = some (.cells [(.pointer (some ⟨b_m, 0, none⟩))].toArray 54 (0, 0))) ∧ (Row A w.heap.size 138 3 encSpanS v_cb7_0 mm) ∧ (∀ g, Value.ownBlock v_cb7_0 = some g → ¬ Iv w13.heap.size K g) ∧ (Below w.heap.size w A) ∧ (mm = turnAll eqS tellB pre) ∧ (RiseG 0 mm)) (fun K c pre A => False) ?_ ?_ ?_ ?_ ?_ ?_
  · intro A hA
    exact ⟨[], (.slice none 0 0), obj_below o_m hA, obj_below o_x3 hA, obj_below o_cb7 hA, obj_below o_x5 hA, obj_below o_cb16 hA, Row.nil _ _ _ _ _, nr_nil _ _, hb.trans (hA.mono hs), by rfl, by trivial⟩
  · rintro K pre A B ⟨mm, v_cb7_0, o_m, o_x3, o_cb7, o_x5, o_cb16, r_cb7_0, nr_r_cb7_0, hb, r1, r2⟩ hc
    exact ⟨mm, v_cb7_0, obj_ch o_m hc (fun h => Nat.not_lt.2 h.1 lt_m_0), obj_ch o_x3 hc (fun h => Nat.not_lt.2 h.1 lt_x3_0), obj_ch o_cb7 hc (fun h => Nat.not_lt.2 h.1 lt_cb7_0), obj_ch o_x5 hc (fun h => Nat.not_lt.2 h.1 lt_x5_0), obj_ch o_cb16 hc (fun h => Nat.not_lt.2 h.1 lt_cb16_0), r_cb7_0.ch hc nr_r_cb7_0, nr_r_cb7_0, hc.below hb hb.size (fun k h => Nat.le_trans hs_0 h.1), r1, r2⟩
  · intro K c _ A B h hc; exact h.elim
  · intro l K pre x A hi hN hK0 hK hpre
    obtain ⟨mm, v_cb7_0, o_m, o_x3, o_cb7, o_x5, o_cb16, r_cb7_0, nr_r_cb7_0, hb, r1, r2⟩ := hi
    have hs := hb.size
    have hk := Kp.refl (w13.heap.size) K A
    have nv_m : ¬ Iv (w13.heap.size) K b_m := fun h => Nat.not_lt.2 h.1 lt_m_0
    have nv_x3 : ¬ Iv (w13.heap.size) K b1 := fun h => Nat.not_lt.2 h.1 lt_x3_0
    have nv_cb7 : ¬ Iv (w13.heap.size) K cb7 := fun h => Nat.not_lt.2 h.1 lt_cb7_0
    have nv_x5 : ¬ Iv (w13.heap.size) K b8 := fun h => Nat.not_lt.2 h.1 lt_x5_0
    have nv_cb16 : ¬ Iv (w13.heap.size) K cb16 := fun h => Nat.not_lt.2 h.1 lt_cb16_0
    have p_xs := in_p_xs.below hb
    replace o_cb16 := hN.1
    replace o_m := hN.2.1
    have hx := hrx.pre hpre
    refine W_seq (W_region (L_new (fun b => .pointer (some ⟨b, 0, none⟩)) (.cells [(.int .i32 0), (.int .i32 0)].toArray 29 (0, 0)) (by kernel_rfl) (by kernel_rfl) ?_))
    intro b17 w18 hN19
    have ne_m_x6 : b_m ≠ b17 := by have := (obj_lt o_m); have := hN19.num; omega
    have ne_x6_m := ne_m_x6.symm
    have ne_x3_x6 : b1 ≠ b17 := by have := (obj_lt o_x3); have := hN19.num; omega
    have ne_x6_x3 := ne_x3_x6.symm
    have ne_cb7_x6 : cb7 ≠ b17 := by have := (obj_lt o_cb7); have := hN19.num; omega
    have ne_x6_cb7 := ne_cb7_x6.symm
    have ne_x5_x6 : b8 ≠ b17 := by have := (obj_lt o_x5); have := hN19.num; omega
    have ne_x6_x5 := ne_x5_x6.symm
    have ne_cb16_x6 : cb16 ≠ b17 := by have := (obj_lt o_cb16); have := hN19.num; omega
    have ne_x6_cb16 := ne_cb16_x6.symm
    have g_x6 : w.heap.size ≤ b17 := by rw [hN19.num]; exact hs
    have nv_x6 : ¬ Iv w13.heap.size K b17 := fun h => by have := h.2; have := hN19.num; omega
    replace hb := hb.trans (hN19.below.mono hs)
    replace hk := hk.ch (Ch.of_below hN19.below) hK (fun _ h => h.elim)
    replace hK := Nat.le_trans hK (hN19.below.size)
    replace hs := Nat.le_trans hs (hN19.below.size)
    replace o_m := obj_below o_m hN19.below
    replace o_x3 := obj_below o_x3 hN19.below
    replace o_cb7 := obj_below o_cb7 hN19.below
    replace o_x5 := obj_below o_x5 hN19.below
    replace o_cb16 := obj_below o_cb16 hN19.below
    replace p_xs := p_xs.below hN19.below
    replace r_cb7_0 := r_cb7_0.below hN19.below
    have o_x6 := hN19.here
    refine L_storeA b17 0 [(.int .i32 x.1), (.int .i32 x.2.1)] [(.int .i32 0), (.int .i32 0)] [(.int .i32 x.1), (.int .i32 x.2.1)] 29 (by kernel_rfl) (by kernel_rfl) rfl (by kernel_rfl) o_x6 (by kernel_rfl) rfl ?_
    intro w20 hW21
    replace hb := hb.trans (hW21.below g_x6)
    replace hk := hk.ch (Ch.of_wrote hW21) hK (fun k e h => nv_x6 (e ▸ h))
    replace hK := Nat.le_trans hK (Nat.le_of_eq hW21.size.symm)
    replace hs := Nat.le_trans hs (Nat.le_of_eq hW21.size.symm)
    have n_o_m := obj_wrote o_m hW21 (obj_ne o_m o_x6 (by simp))
    have n_o_x3 := obj_wrote o_x3 hW21 (obj_ne o_x3 o_x6 (by simp))
    have n_o_cb7 := obj_wrote o_cb7 hW21 (obj_ne o_cb7 o_x6 (by simp))
    have n_o_x5 := obj_wrote o_x5 hW21 (obj_ne o_x5 o_x6 (by simp))
    have n_o_cb16 := obj_wrote o_cb16 hW21 (obj_ne o_cb16 o_x6 (by simp))
    have n_p_xs := in_p_xs.below hb
    have n_r_cb7_0 := r_cb7_0.wrote hW21 (r_cb7_0.ne o_x6 (by simp))
    replace o_m := n_o_m; clear n_o_m
    replace o_x3 := n_o_x3; clear n_o_x3
    replace o_cb7 := n_o_cb7; clear n_o_cb7
    replace o_x5 := n_o_x5; clear n_o_x5
    replace o_cb16 := n_o_cb16; clear n_o_cb16
    replace p_xs := n_p_xs; clear n_p_xs
    replace r_cb7_0 := n_r_cb7_0; clear n_r_cb7_0
    replace o_x6 := hW21.here
    refine L_nil (thenQ_normal (W_region (L_as (L_nil ?_))))
    refine thenQ_normal ⟨hk, ?_⟩
    intro w22 hc23
    replace o_m := obj_ch o_m hc23 nv_m
    replace o_x3 := obj_ch o_x3 hc23 nv_x3
    replace o_cb7 := obj_ch o_cb7 hc23 nv_cb7
    replace o_x5 := obj_ch o_x5 hc23 nv_x5
    replace o_cb16 := obj_ch o_cb16 hc23 nv_cb16
    replace o_x6 := obj_ch o_x6 hc23 nv_x6
    replace r_cb7_0 := r_cb7_0.ch hc23 nr_r_cb7_0
    replace hb := hc23.below hb hs (fun k h => Nat.le_trans hs_0 h.1)
    replace p_xs := in_p_xs.below hb
    replace hs := hb.size
    replace hK := Nat.le_trans hK hc23.size
    replace hk := Kp.refl (w13.heap.size) K w22
    refine W_block (W_seq (W_region (L_as (L_nil (thenQ_normal (W_seq (W_seq (W_region (L_load b1 0 (.func (.func 33) #[] #[]) (by kernel_rfl) (by kernel_rfl) (cell_obj o_x3 rfl) (L_run (.bool true) (by kernel_rfl) (by kernel_rfl) (L_nil (thenQ_normal (W_true (by kernel_rfl) (W_region (L_load b1 0 (.func (.func 33) #[] #[]) (by kernel_rfl) (by kernel_rfl) (cell_obj o_x3 rfl) (L_mv (L_call 33 [(.bool x.2.2)] (by kernel_rfl) (by kernel_rfl) (c_tell x.2.2 _ ) ?_)))))))))))))))))
    rintro _ w24 ⟨rfl, hB25⟩
    replace hb := hb.trans (hB25.mono hs)
    replace hk := hk.ch (Ch.of_below hB25) hK (fun _ h => h.elim)
    replace hK := Nat.le_trans hK (hB25.size)
    replace hs := Nat.le_trans hs (hB25.size)
    replace o_m := obj_below o_m hB25
    replace o_x3 := obj_below o_x3 hB25
    replace o_cb7 := obj_below o_cb7 hB25
    replace o_x5 := obj_below o_x5 hB25
    replace o_cb16 := obj_below o_cb16 hB25
    replace o_x6 := obj_below o_x6 hB25
    replace p_xs := p_xs.below hB25
    replace r_cb7_0 := r_cb7_0.below hB25
    refine L_as (L_nil (thenQ_normal (W_region (L_load b8 0 (.pointer (some ⟨cb7, 0, none⟩)) (by kernel_rfl) (by kernel_rfl) (cell_obj o_x5 rfl) (L_loadA b17 0 [(.int .i32 x.1), (.int .i32 x.2.1)] (by kernel_rfl) (by kernel_rfl) (by kernel_rfl) (cells_at o_x6 0 (by kernel_rfl)) (L_mv (L_call 45 [(.pointer (some ⟨cb7, 0, none⟩)), (Value.agg #[(.int .i32 x.1), (.int .i32 x.2.1)]), (S (tellB x.2.2))] (by kernel_rfl) (by kernel_rfl) (c_lay_S cb7 v_cb7_0 mm x.1 x.2.1 (tellB x.2.2) w.heap.size _ hs o_cb7 g_cb7 r_cb7_0 (by exact r2) (by omega) (by omega)) ?_)))))))
    rintro _ w28 ⟨q27, rfl, ho31, r_q27, dm29, hC30⟩
    have hnk : ∀ k, Dm cb7 v_cb7_0 k → ¬ Iv (w13.heap.size) K k := fun k e => e.elim (fun x => by rw [x]; exact nv_cb7) (fun x => nr_r_cb7_0 k x)
    have nr_r_q27 : ∀ g, Value.ownBlock q27 = some g → ¬ Iv (w13.heap.size) K g := fun g hg => (dm29 g hg).elim (fun x y => by have := y.2; omega) (fun e => hnk g e)
    replace hk := hk.ch hC30 hK hnk
    replace hK := Nat.le_trans hK hC30.size
    replace hb := hC30.below hb hs (fun k e => e.elim (fun x => x ▸ g_cb7) (fun x => (World.ownsRow.lt r_cb7_0 k x).1))
    replace hs := Nat.le_trans hs hC30.size
    have n_o_m := obj_ch_mut o_m hC30 (obj_ne o_m o_cb7 (by simp)) (r_cb7_0.ne o_m (by simp))
    have n_o_x3 := obj_ch_mut o_x3 hC30 (obj_ne o_x3 o_cb7 (by simp)) (r_cb7_0.ne o_x3 (by simp))
    have n_o_x5 := obj_ch_mut o_x5 hC30 (obj_ne o_x5 o_cb7 (by simp)) (r_cb7_0.ne o_x5 (by simp))
    have n_o_cb16 := obj_ch_mut o_cb16 hC30 (obj_ne o_cb16 o_cb7 (by simp)) (r_cb7_0.ne o_cb16 (by simp))
    have n_o_x6 := obj_ch_mut o_x6 hC30 (obj_ne o_x6 o_cb7 (by simp)) (r_cb7_0.ne o_x6 (by simp))
    have n_p_xs := in_p_xs.below hb
    replace o_m := n_o_m; clear n_o_m
    replace o_x3 := n_o_x3; clear n_o_x3
    replace o_x5 := n_o_x5; clear n_o_x5
    replace o_cb16 := n_o_cb16; clear n_o_cb16
    replace o_x6 := n_o_x6; clear n_o_x6
    replace p_xs := n_p_xs; clear n_p_xs
    replace o_cb7 := ho31
    refine L_nil (blkQ_normal ?_)
    refine round_normal hk ⟨o_cb16, o_m, p_xs⟩ ⟨(layF eqS mm x.1 x.2.1 (tellB x.2.2)), q27, o_m, o_x3, o_cb7, o_x5, o_cb16, r_q27, nr_r_q27, hb, ?_, ?_⟩
    · first | (rw [r1]; exact (turnAll_snoc _ _ _).symm) | (rw [turnAll_snoc, r1]; congr 1; symm; assumption)
    · exact layF_rise r2
  · intro K A hi hsz o_D0
    obtain ⟨mm, v_cb7_0, o_m, o_x3, o_cb7, o_x5, o_cb16, r_cb7_0, nr_r_cb7_0, hb, r1, r2⟩ := hi
    have p_xs := in_p_xs.below hb
    have ne_m_D0 : b_m ≠ w13.heap.size := Nat.ne_of_lt lt_m_0
    have ne_D0_m := ne_m_D0.symm
    have ne_x3_D0 : b1 ≠ w13.heap.size := Nat.ne_of_lt lt_x3_0
    have ne_D0_x3 := ne_x3_D0.symm
    have ne_cb7_D0 : cb7 ≠ w13.heap.size := Nat.ne_of_lt lt_cb7_0
    have ne_D0_cb7 := ne_cb7_D0.symm
    have ne_x5_D0 : b8 ≠ w13.heap.size := Nat.ne_of_lt lt_x5_0
    have ne_D0_x5 := ne_x5_D0.symm
    have ne_cb16_D0 : cb16 ≠ w13.heap.size := Nat.ne_of_lt lt_cb16_0
    have ne_D0_cb16 := ne_cb16_D0.symm
    have hs : w.heap.size ≤ _ := hb.size
    refine blkQ_normal (thenQ_normal (W_seq (W_region (L_load b8 0 (.pointer (some ⟨cb7, 0, none⟩)) (by kernel_rfl) (by kernel_rfl) (cell_obj o_x5 rfl) (L_as (L_nil (thenQ_normal (W_ret (end_retM (ds := [⟨.collected w13.heap.size, #[]⟩]) (by kernel_rfl) (Lv_mark o_D0 ?_))))))))))
    intro w32 hW33
    replace hb := hb.trans (hW33.below hs_0)
    replace hs := Nat.le_trans hs (Nat.le_of_eq hW33.size.symm)
    have n_o_m := obj_wrote o_m hW33 (obj_ne o_m o_D0 (by simp))
    have n_o_x3 := obj_wrote o_x3 hW33 (obj_ne o_x3 o_D0 (by simp))
    have n_o_cb7 := obj_wrote o_cb7 hW33 (obj_ne o_cb7 o_D0 (by simp))
    have n_o_x5 := obj_wrote o_x5 hW33 (obj_ne o_x5 o_D0 (by simp))
    have n_o_cb16 := obj_wrote o_cb16 hW33 (obj_ne o_cb16 o_D0 (by simp))
    have n_p_xs := in_p_xs.below hb
    have n_r_cb7_0 := r_cb7_0.wrote hW33 (r_cb7_0.ne o_D0 (by simp))
    replace o_m := n_o_m; clear n_o_m
    replace o_x3 := n_o_x3; clear n_o_x3
    replace o_cb7 := n_o_cb7; clear n_o_cb7
    replace o_x5 := n_o_x5; clear n_o_x5
    replace o_cb16 := n_o_cb16; clear n_o_cb16
    replace p_xs := n_p_xs; clear n_p_xs
    replace r_cb7_0 := n_r_cb7_0; clear n_r_cb7_0
    replace o_D0 := hW33.here
    refine Lv_nil [.tmp 4] [(.pointer (some ⟨cb7, 0, none⟩))] rfl ⟨by kernel_rfl, trivial⟩ ?_
    have e51 : mm = (turnAll eqS tellB xs) := by first | exact r1 | rfl
    exact ⟨v_cb7_0, cb7, rfl, r_cb7_0.cast e51, o_cb7, g_cb7, hb⟩
  · intro K c _ x A _ h; exact h.elim

set_option maxHeartbeats 4000000 in
set_option maxRecDepth 100000 in
theorem c_turn_IS (b_m : Nat) (v_xs : Value) (xs : List (Int × Int × Int)) (w : World) (o_m : w.heap[b_m]? = some (.cells [v_xs, (.bool true)].toArray 109 (0, 0))) (p_xs : Rd w encSpanI v_xs xs) (hrx : RiseG 0 xs) :
    Calls Try.prog 34 #[(.pointer (some ⟨b_m, 0, none⟩)), (.func (.func 35) #[] #[])] w (Ret fun v w' => ∃ (q0 : Value) (cb0 : Nat), v = (.pointer (some ⟨cb0, 0, none⟩)) ∧ Row w' w.heap.size 138 3 encSpanS q0 (turnAll eqS (fun v => tellB (evenB v)) xs) ∧ w'.heap[cb0]? = some (.cells [q0, (.bool true)].toArray 136 (0, 0)) ∧ w.heap.size ≤ cb0 ∧ Below w.heap.size w w') := by
  refine enterM (args := [(.pointer (some ⟨b_m, 0, none⟩)), (.func (.func 35) #[] #[])]) Try.func34 rfl (by kernel_rfl : _ = 24) (by kernel_rfl) ?_
  have hb := Below.refl w.heap.size w
  have hs : w.heap.size ≤ w.heap.size := Nat.le_refl _
  have in_p_xs := p_xs
  have hlx := hrx.len
  refine W_seq (W_region (L_new (fun b => .pointer (some ⟨b, 0, none⟩)) (.cells [(.func (.func 35) #[] #[])].toArray 72 (0, 0)) (by kernel_rfl) (by kernel_rfl) ?_))
  intro b1 w2 hN3
  have ne_m_x3 : b_m ≠ b1 := by have := (obj_lt o_m); have := hN3.num; omega
  have ne_x3_m := ne_m_x3.symm
  have g_x3 : w.heap.size ≤ b1 := by rw [hN3.num]; exact hs
  replace hb := hb.trans (hN3.below.mono hs)
  replace hs := Nat.le_trans hs (hN3.below.size)
  replace o_m := obj_below o_m hN3.below
  replace p_xs := p_xs.below hN3.below
  have o_x3 := hN3.here
  refine L_as (L_nil (thenQ_normal (W_seq (W_region (L_call 41 [] (by kernel_rfl) (by kernel_rfl) (c_new_S  _ ) ?_)))))
  rintro _ w4 ⟨cb7, rfl, o_cb7, g_cb7, hB5⟩
  have ne_m_cb7 : b_m ≠ cb7 := by have := (obj_lt o_m); omega
  have ne_cb7_m := ne_m_cb7.symm
  have ne_x3_cb7 : b1 ≠ cb7 := by have := (obj_lt o_x3); omega
  have ne_cb7_x3 := ne_x3_cb7.symm
  replace g_cb7 := Nat.le_trans hs g_cb7
  replace hb := hb.trans (hB5.mono hs)
  replace hs := Nat.le_trans hs (hB5.size)
  replace o_m := obj_below o_m hB5
  replace o_x3 := obj_below o_x3 hB5
  replace p_xs := p_xs.below hB5
  refine L_new (fun b => .pointer (some ⟨b, 0, none⟩)) (.cells [(.pointer none)].toArray 66 (0, 0)) (by kernel_rfl) (by kernel_rfl) ?_
  intro b8 w9 hN10
  have ne_m_x5 : b_m ≠ b8 := by have := (obj_lt o_m); have := hN10.num; omega
  have ne_x5_m := ne_m_x5.symm
  have ne_x3_x5 : b1 ≠ b8 := by have := (obj_lt o_x3); have := hN10.num; omega
  have ne_x5_x3 := ne_x3_x5.symm
  have ne_cb7_x5 : cb7 ≠ b8 := by have := (obj_lt o_cb7); have := hN10.num; omega
  have ne_x5_cb7 := ne_cb7_x5.symm
  have g_x5 : w.heap.size ≤ b8 := by rw [hN10.num]; exact hs
  replace hb := hb.trans (hN10.below.mono hs)
  replace hs := Nat.le_trans hs (hN10.below.size)
  replace o_m := obj_below o_m hN10.below
  replace o_x3 := obj_below o_x3 hN10.below
  replace o_cb7 := obj_below o_cb7 hN10.below
  replace p_xs := p_xs.below hN10.below
  have o_x5 := hN10.here
  refine L_store b8 0 (.pointer (some ⟨cb7, 0, none⟩)) [(.pointer none)] [(.pointer (some ⟨cb7, 0, none⟩))] 66 (by kernel_rfl) (by kernel_rfl) rfl (by kernel_rfl) o_x5 (by simp) rfl ?_
  intro w11 hW12
  replace hb := hb.trans (hW12.below g_x5)
  replace hs := Nat.le_trans hs (Nat.le_of_eq hW12.size.symm)
  have n_o_m := obj_wrote o_m hW12 (obj_ne o_m o_x5 (by simp))
  have n_o_x3 := obj_wrote o_x3 hW12 (obj_ne o_x3 o_x5 (by simp))
  have n_o_cb7 := obj_wrote o_cb7 hW12 (obj_ne o_cb7 o_x5 (by simp))
  have n_p_xs := in_p_xs.below hb
  replace o_m := n_o_m; clear n_o_m
  replace o_x3 := n_o_x3; clear n_o_x3
  replace o_cb7 := n_o_cb7; clear n_o_cb7
  replace p_xs := n_p_xs; clear n_p_xs
  replace o_x5 := hW12.here
  refine L_nil (thenQ_normal (W_seq (W_seq (W_region (L_mv (L_call 61 [(.pointer (some ⟨b_m, 0, none⟩))] (by kernel_rfl) (by kernel_rfl) (c_all_I b_m v_xs xs _ o_m p_xs) ?_))))))
  rintro _ w13 ⟨cb16, rfl, o_cb16, g_cb16, hB14⟩
  have ne_m_cb16 : b_m ≠ cb16 := by have := (obj_lt o_m); omega
  have ne_cb16_m := ne_m_cb16.symm
  have ne_x3_cb16 : b1 ≠ cb16 := by have := (obj_lt o_x3); omega
  have ne_cb16_x3 := ne_x3_cb16.symm
  have ne_cb7_cb16 : cb7 ≠ cb16 := by have := (obj_lt o_cb7); omega
  have ne_cb16_cb7 := ne_cb7_cb16.symm
  have ne_x5_cb16 : b8 ≠ cb16 := by have := (obj_lt o_x5); omega
  have ne_cb16_x5 := ne_x5_cb16.symm
  replace g_cb16 := Nat.le_trans hs g_cb16
  replace hb := hb.trans (hB14.mono hs)
  replace hs := Nat.le_trans hs (hB14.size)
  replace o_m := obj_below o_m hB14
  replace o_x3 := obj_below o_x3 hB14
  replace o_cb7 := obj_below o_cb7 hB14
  replace o_x5 := obj_below o_x5 hB14
  replace p_xs := p_xs.below hB14
  refine L_nil (thenQ_normal (W_block ?_))
  have lt_m_0 : b_m < w13.heap.size := obj_lt o_m
  have lt_x3_0 : b1 < w13.heap.size := obj_lt o_x3
  have lt_cb7_0 : cb7 < w13.heap.size := obj_lt o_cb7
  have lt_x5_0 : b8 < w13.heap.size := obj_lt o_x5
  have lt_cb16_0 : cb16 < w13.heap.size := obj_lt o_cb16
  have hs_0 := hs
  have hb_0 := hb
  refine W_range 103 [(.pointer (some ⟨cb16, 0, none⟩))] xs (by kernel_rfl) (fun _ _ => rfl) (it_all_I cb16 b_m v_xs xs (by omega)) ⟨o_cb16, o_m, p_xs⟩ ((fun D A B h hc hd => ⟨obj_ch h.1 hc (fun h => Nat.not_lt.2 (hd _ h) lt_cb16_0), obj_ch h.2.1 hc (fun h => Nat.not_lt.2 (hd _ h) lt_m_0), Rd.ch p_xs (Nat.le_refl _) h.2.2 hc hd⟩)) (by intro x; rfl) (fun K pre A => ∃ (mm : List SpS) (v_cb7_0 : Value), (A.heap[b_m]? = some (.cells [v_xs, (.bool true)].toArray 109 (0, 0))) ∧ (A.heap[b1]? = some (.cells [(.func (.func 35) #[] #[])].toArray 72 (0, 0))) ∧ (A.heap[cb7]? = some (.cells [v_cb7_0, (.bool true)].toArray 136 (0, 0))) ∧ (A.heap[b8]? = some (.cells [(.pointer (some ⟨cb7, 0, none⟩))].toArray 66 (0, 0))) ∧ (A.heap[cb16]? = some (.cells [(.pointer (some ⟨b_m, 0, none⟩))].toArray 41 (0, 0))) ∧ (Row A w.heap.size 138 3 encSpanS v_cb7_0 mm) ∧ (∀ g, Value.ownBlock v_cb7_0 = some g → ¬ Iv w13.heap.size K g) ∧ (Below w.heap.size w A) ∧ (mm = turnAll eqS (fun v => tellB (evenB v)) pre) ∧ (RiseG 0 mm)) (fun K c pre A => False) ?_ ?_ ?_ ?_ ?_ ?_
  · intro A hA
    exact ⟨[], (.slice none 0 0), obj_below o_m hA, obj_below o_x3 hA, obj_below o_cb7 hA, obj_below o_x5 hA, obj_below o_cb16 hA, Row.nil _ _ _ _ _, nr_nil _ _, hb.trans (hA.mono hs), by rfl, by trivial⟩
  · rintro K pre A B ⟨mm, v_cb7_0, o_m, o_x3, o_cb7, o_x5, o_cb16, r_cb7_0, nr_r_cb7_0, hb, r1, r2⟩ hc
    exact ⟨mm, v_cb7_0, obj_ch o_m hc (fun h => Nat.not_lt.2 h.1 lt_m_0), obj_ch o_x3 hc (fun h => Nat.not_lt.2 h.1 lt_x3_0), obj_ch o_cb7 hc (fun h => Nat.not_lt.2 h.1 lt_cb7_0), obj_ch o_x5 hc (fun h => Nat.not_lt.2 h.1 lt_x5_0), obj_ch o_cb16 hc (fun h => Nat.not_lt.2 h.1 lt_cb16_0), r_cb7_0.ch hc nr_r_cb7_0, nr_r_cb7_0, hc.below hb hb.size (fun k h => Nat.le_trans hs_0 h.1), r1, r2⟩
  · intro K c _ A B h hc; exact h.elim
  · intro l K pre x A hi hN hK0 hK hpre
    obtain ⟨mm, v_cb7_0, o_m, o_x3, o_cb7, o_x5, o_cb16, r_cb7_0, nr_r_cb7_0, hb, r1, r2⟩ := hi
    have hs := hb.size
    have hk := Kp.refl (w13.heap.size) K A
    have nv_m : ¬ Iv (w13.heap.size) K b_m := fun h => Nat.not_lt.2 h.1 lt_m_0
    have nv_x3 : ¬ Iv (w13.heap.size) K b1 := fun h => Nat.not_lt.2 h.1 lt_x3_0
    have nv_cb7 : ¬ Iv (w13.heap.size) K cb7 := fun h => Nat.not_lt.2 h.1 lt_cb7_0
    have nv_x5 : ¬ Iv (w13.heap.size) K b8 := fun h => Nat.not_lt.2 h.1 lt_x5_0
    have nv_cb16 : ¬ Iv (w13.heap.size) K cb16 := fun h => Nat.not_lt.2 h.1 lt_cb16_0
    have p_xs := in_p_xs.below hb
    replace o_cb16 := hN.1
    replace o_m := hN.2.1
    have hx := hrx.pre hpre
    refine W_seq (W_region (L_new (fun b => .pointer (some ⟨b, 0, none⟩)) (.cells [(.int .i32 0), (.int .i32 0)].toArray 29 (0, 0)) (by kernel_rfl) (by kernel_rfl) ?_))
    intro b17 w18 hN19
    have ne_m_x6 : b_m ≠ b17 := by have := (obj_lt o_m); have := hN19.num; omega
    have ne_x6_m := ne_m_x6.symm
    have ne_x3_x6 : b1 ≠ b17 := by have := (obj_lt o_x3); have := hN19.num; omega
    have ne_x6_x3 := ne_x3_x6.symm
    have ne_cb7_x6 : cb7 ≠ b17 := by have := (obj_lt o_cb7); have := hN19.num; omega
    have ne_x6_cb7 := ne_cb7_x6.symm
    have ne_x5_x6 : b8 ≠ b17 := by have := (obj_lt o_x5); have := hN19.num; omega
    have ne_x6_x5 := ne_x5_x6.symm
    have ne_cb16_x6 : cb16 ≠ b17 := by have := (obj_lt o_cb16); have := hN19.num; omega
    have ne_x6_cb16 := ne_cb16_x6.symm
    have g_x6 : w.heap.size ≤ b17 := by rw [hN19.num]; exact hs
    have nv_x6 : ¬ Iv w13.heap.size K b17 := fun h => by have := h.2; have := hN19.num; omega
    replace hb := hb.trans (hN19.below.mono hs)
    replace hk := hk.ch (Ch.of_below hN19.below) hK (fun _ h => h.elim)
    replace hK := Nat.le_trans hK (hN19.below.size)
    replace hs := Nat.le_trans hs (hN19.below.size)
    replace o_m := obj_below o_m hN19.below
    replace o_x3 := obj_below o_x3 hN19.below
    replace o_cb7 := obj_below o_cb7 hN19.below
    replace o_x5 := obj_below o_x5 hN19.below
    replace o_cb16 := obj_below o_cb16 hN19.below
    replace p_xs := p_xs.below hN19.below
    replace r_cb7_0 := r_cb7_0.below hN19.below
    have o_x6 := hN19.here
    refine L_storeA b17 0 [(.int .i32 x.1), (.int .i32 x.2.1)] [(.int .i32 0), (.int .i32 0)] [(.int .i32 x.1), (.int .i32 x.2.1)] 29 (by kernel_rfl) (by kernel_rfl) rfl (by kernel_rfl) o_x6 (by kernel_rfl) rfl ?_
    intro w20 hW21
    replace hb := hb.trans (hW21.below g_x6)
    replace hk := hk.ch (Ch.of_wrote hW21) hK (fun k e h => nv_x6 (e ▸ h))
    replace hK := Nat.le_trans hK (Nat.le_of_eq hW21.size.symm)
    replace hs := Nat.le_trans hs (Nat.le_of_eq hW21.size.symm)
    have n_o_m := obj_wrote o_m hW21 (obj_ne o_m o_x6 (by simp))
    have n_o_x3 := obj_wrote o_x3 hW21 (obj_ne o_x3 o_x6 (by simp))
    have n_o_cb7 := obj_wrote o_cb7 hW21 (obj_ne o_cb7 o_x6 (by simp))
    have n_o_x5 := obj_wrote o_x5 hW21 (obj_ne o_x5 o_x6 (by simp))
    have n_o_cb16 := obj_wrote o_cb16 hW21 (obj_ne o_cb16 o_x6 (by simp))
    have n_p_xs := in_p_xs.below hb
    have n_r_cb7_0 := r_cb7_0.wrote hW21 (r_cb7_0.ne o_x6 (by simp))
    replace o_m := n_o_m; clear n_o_m
    replace o_x3 := n_o_x3; clear n_o_x3
    replace o_cb7 := n_o_cb7; clear n_o_cb7
    replace o_x5 := n_o_x5; clear n_o_x5
    replace o_cb16 := n_o_cb16; clear n_o_cb16
    replace p_xs := n_p_xs; clear n_p_xs
    replace r_cb7_0 := n_r_cb7_0; clear n_r_cb7_0
    replace o_x6 := hW21.here
    refine L_nil (thenQ_normal (W_region (L_as (L_nil ?_))))
    refine thenQ_normal ⟨hk, ?_⟩
    intro w22 hc23
    replace o_m := obj_ch o_m hc23 nv_m
    replace o_x3 := obj_ch o_x3 hc23 nv_x3
    replace o_cb7 := obj_ch o_cb7 hc23 nv_cb7
    replace o_x5 := obj_ch o_x5 hc23 nv_x5
    replace o_cb16 := obj_ch o_cb16 hc23 nv_cb16
    replace o_x6 := obj_ch o_x6 hc23 nv_x6
    replace r_cb7_0 := r_cb7_0.ch hc23 nr_r_cb7_0
    replace hb := hc23.below hb hs (fun k h => Nat.le_trans hs_0 h.1)
    replace p_xs := in_p_xs.below hb
    replace hs := hb.size
    replace hK := Nat.le_trans hK hc23.size
    replace hk := Kp.refl (w13.heap.size) K w22
    refine W_block (W_seq (W_region (L_as (L_nil (thenQ_normal (W_seq (W_seq (W_region (L_load b1 0 (.func (.func 35) #[] #[]) (by kernel_rfl) (by kernel_rfl) (cell_obj o_x3 rfl) (L_run (.bool true) (by kernel_rfl) (by kernel_rfl) (L_nil (thenQ_normal (W_true (by kernel_rfl) (W_region (L_load b1 0 (.func (.func 35) #[] #[]) (by kernel_rfl) (by kernel_rfl) (cell_obj o_x3 rfl) (L_mv (L_call 35 [(.int .i64 x.2.2)] (by kernel_rfl) (by kernel_rfl) (c_tellE x.2.2 _ ) ?_)))))))))))))))))
    rintro _ w24 ⟨rfl, hB25⟩
    replace hb := hb.trans (hB25.mono hs)
    replace hk := hk.ch (Ch.of_below hB25) hK (fun _ h => h.elim)
    replace hK := Nat.le_trans hK (hB25.size)
    replace hs := Nat.le_trans hs (hB25.size)
    replace o_m := obj_below o_m hB25
    replace o_x3 := obj_below o_x3 hB25
    replace o_cb7 := obj_below o_cb7 hB25
    replace o_x5 := obj_below o_x5 hB25
    replace o_cb16 := obj_below o_cb16 hB25
    replace o_x6 := obj_below o_x6 hB25
    replace p_xs := p_xs.below hB25
    replace r_cb7_0 := r_cb7_0.below hB25
    refine L_as (L_nil (thenQ_normal (W_region (L_load b8 0 (.pointer (some ⟨cb7, 0, none⟩)) (by kernel_rfl) (by kernel_rfl) (cell_obj o_x5 rfl) (L_loadA b17 0 [(.int .i32 x.1), (.int .i32 x.2.1)] (by kernel_rfl) (by kernel_rfl) (by kernel_rfl) (cells_at o_x6 0 (by kernel_rfl)) (L_mv (L_call 45 [(.pointer (some ⟨cb7, 0, none⟩)), (Value.agg #[(.int .i32 x.1), (.int .i32 x.2.1)]), (S (tellB (evenB x.2.2)))] (by kernel_rfl) (by kernel_rfl) (c_lay_S cb7 v_cb7_0 mm x.1 x.2.1 (tellB (evenB x.2.2)) w.heap.size _ hs o_cb7 g_cb7 r_cb7_0 (by exact r2) (by omega) (by omega)) ?_)))))))
    rintro _ w28 ⟨q27, rfl, ho31, r_q27, dm29, hC30⟩
    have hnk : ∀ k, Dm cb7 v_cb7_0 k → ¬ Iv (w13.heap.size) K k := fun k e => e.elim (fun x => by rw [x]; exact nv_cb7) (fun x => nr_r_cb7_0 k x)
    have nr_r_q27 : ∀ g, Value.ownBlock q27 = some g → ¬ Iv (w13.heap.size) K g := fun g hg => (dm29 g hg).elim (fun x y => by have := y.2; omega) (fun e => hnk g e)
    replace hk := hk.ch hC30 hK hnk
    replace hK := Nat.le_trans hK hC30.size
    replace hb := hC30.below hb hs (fun k e => e.elim (fun x => x ▸ g_cb7) (fun x => (World.ownsRow.lt r_cb7_0 k x).1))
    replace hs := Nat.le_trans hs hC30.size
    have n_o_m := obj_ch_mut o_m hC30 (obj_ne o_m o_cb7 (by simp)) (r_cb7_0.ne o_m (by simp))
    have n_o_x3 := obj_ch_mut o_x3 hC30 (obj_ne o_x3 o_cb7 (by simp)) (r_cb7_0.ne o_x3 (by simp))
    have n_o_x5 := obj_ch_mut o_x5 hC30 (obj_ne o_x5 o_cb7 (by simp)) (r_cb7_0.ne o_x5 (by simp))
    have n_o_cb16 := obj_ch_mut o_cb16 hC30 (obj_ne o_cb16 o_cb7 (by simp)) (r_cb7_0.ne o_cb16 (by simp))
    have n_o_x6 := obj_ch_mut o_x6 hC30 (obj_ne o_x6 o_cb7 (by simp)) (r_cb7_0.ne o_x6 (by simp))
    have n_p_xs := in_p_xs.below hb
    replace o_m := n_o_m; clear n_o_m
    replace o_x3 := n_o_x3; clear n_o_x3
    replace o_x5 := n_o_x5; clear n_o_x5
    replace o_cb16 := n_o_cb16; clear n_o_cb16
    replace o_x6 := n_o_x6; clear n_o_x6
    replace p_xs := n_p_xs; clear n_p_xs
    replace o_cb7 := ho31
    refine L_nil (blkQ_normal ?_)
    refine round_normal hk ⟨o_cb16, o_m, p_xs⟩ ⟨(layF eqS mm x.1 x.2.1 (tellB (evenB x.2.2))), q27, o_m, o_x3, o_cb7, o_x5, o_cb16, r_q27, nr_r_q27, hb, ?_, ?_⟩
    · first | (rw [r1]; exact (turnAll_snoc _ _ _).symm) | (rw [turnAll_snoc, r1]; congr 1; symm; assumption)
    · exact layF_rise r2
  · intro K A hi hsz o_D0
    obtain ⟨mm, v_cb7_0, o_m, o_x3, o_cb7, o_x5, o_cb16, r_cb7_0, nr_r_cb7_0, hb, r1, r2⟩ := hi
    have p_xs := in_p_xs.below hb
    have ne_m_D0 : b_m ≠ w13.heap.size := Nat.ne_of_lt lt_m_0
    have ne_D0_m := ne_m_D0.symm
    have ne_x3_D0 : b1 ≠ w13.heap.size := Nat.ne_of_lt lt_x3_0
    have ne_D0_x3 := ne_x3_D0.symm
    have ne_cb7_D0 : cb7 ≠ w13.heap.size := Nat.ne_of_lt lt_cb7_0
    have ne_D0_cb7 := ne_cb7_D0.symm
    have ne_x5_D0 : b8 ≠ w13.heap.size := Nat.ne_of_lt lt_x5_0
    have ne_D0_x5 := ne_x5_D0.symm
    have ne_cb16_D0 : cb16 ≠ w13.heap.size := Nat.ne_of_lt lt_cb16_0
    have ne_D0_cb16 := ne_cb16_D0.symm
    have hs : w.heap.size ≤ _ := hb.size
    refine blkQ_normal (thenQ_normal (W_seq (W_region (L_load b8 0 (.pointer (some ⟨cb7, 0, none⟩)) (by kernel_rfl) (by kernel_rfl) (cell_obj o_x5 rfl) (L_as (L_nil (thenQ_normal (W_ret (end_retM (ds := [⟨.collected w13.heap.size, #[]⟩]) (by kernel_rfl) (Lv_mark o_D0 ?_))))))))))
    intro w32 hW33
    replace hb := hb.trans (hW33.below hs_0)
    replace hs := Nat.le_trans hs (Nat.le_of_eq hW33.size.symm)
    have n_o_m := obj_wrote o_m hW33 (obj_ne o_m o_D0 (by simp))
    have n_o_x3 := obj_wrote o_x3 hW33 (obj_ne o_x3 o_D0 (by simp))
    have n_o_cb7 := obj_wrote o_cb7 hW33 (obj_ne o_cb7 o_D0 (by simp))
    have n_o_x5 := obj_wrote o_x5 hW33 (obj_ne o_x5 o_D0 (by simp))
    have n_o_cb16 := obj_wrote o_cb16 hW33 (obj_ne o_cb16 o_D0 (by simp))
    have n_p_xs := in_p_xs.below hb
    have n_r_cb7_0 := r_cb7_0.wrote hW33 (r_cb7_0.ne o_D0 (by simp))
    replace o_m := n_o_m; clear n_o_m
    replace o_x3 := n_o_x3; clear n_o_x3
    replace o_cb7 := n_o_cb7; clear n_o_cb7
    replace o_x5 := n_o_x5; clear n_o_x5
    replace o_cb16 := n_o_cb16; clear n_o_cb16
    replace p_xs := n_p_xs; clear n_p_xs
    replace r_cb7_0 := n_r_cb7_0; clear n_r_cb7_0
    replace o_D0 := hW33.here
    refine Lv_nil [.tmp 4] [(.pointer (some ⟨cb7, 0, none⟩))] rfl ⟨by kernel_rfl, trivial⟩ ?_
    have e51 : mm = (turnAll eqS (fun v => tellB (evenB v)) xs) := by first | exact r1 | rfl
    exact ⟨v_cb7_0, cb7, rfl, r_cb7_0.cast e51, o_cb7, g_cb7, hb⟩
  · intro K c _ x A _ h; exact h.elim

set_option maxHeartbeats 4000000 in
set_option maxRecDepth 100000 in
theorem c_turn_nil (b_m : Nat) (v_xs : Value) (xs : List (Int × Int × Int)) (w : World) (o_m : w.heap[b_m]? = some (.cells [v_xs, (.bool true)].toArray 109 (0, 0))) (p_xs : Rd w encSpanI v_xs xs) (hrx : RiseG 0 xs) :
    Calls Try.prog 34 #[(.pointer (some ⟨b_m, 0, none⟩)), .nilFunc] w (Ret fun v w' => ∃ (q0 : Value) (cb0 : Nat), v = (.pointer (some ⟨cb0, 0, none⟩)) ∧ Row w' w.heap.size 138 3 encSpanS q0 (turnAll eqS (fun _ => ([] : List UInt8)) xs) ∧ w'.heap[cb0]? = some (.cells [q0, (.bool true)].toArray 136 (0, 0)) ∧ w.heap.size ≤ cb0 ∧ Below w.heap.size w w') := by
  refine enterM (args := [(.pointer (some ⟨b_m, 0, none⟩)), .nilFunc]) Try.func34 rfl (by kernel_rfl : _ = 24) (by kernel_rfl) ?_
  have hb := Below.refl w.heap.size w
  have hs : w.heap.size ≤ w.heap.size := Nat.le_refl _
  have in_p_xs := p_xs
  have hlx := hrx.len
  refine W_seq (W_region (L_new (fun b => .pointer (some ⟨b, 0, none⟩)) (.cells [.nilFunc].toArray 72 (0, 0)) (by kernel_rfl) (by kernel_rfl) ?_))
  intro b1 w2 hN3
  have ne_m_x3 : b_m ≠ b1 := by have := (obj_lt o_m); have := hN3.num; omega
  have ne_x3_m := ne_m_x3.symm
  have g_x3 : w.heap.size ≤ b1 := by rw [hN3.num]; exact hs
  replace hb := hb.trans (hN3.below.mono hs)
  replace hs := Nat.le_trans hs (hN3.below.size)
  replace o_m := obj_below o_m hN3.below
  replace p_xs := p_xs.below hN3.below
  have o_x3 := hN3.here
  refine L_as (L_nil (thenQ_normal (W_seq (W_region (L_call 41 [] (by kernel_rfl) (by kernel_rfl) (c_new_S  _ ) ?_)))))
  rintro _ w4 ⟨cb7, rfl, o_cb7, g_cb7, hB5⟩
  have ne_m_cb7 : b_m ≠ cb7 := by have := (obj_lt o_m); omega
  have ne_cb7_m := ne_m_cb7.symm
  have ne_x3_cb7 : b1 ≠ cb7 := by have := (obj_lt o_x3); omega
  have ne_cb7_x3 := ne_x3_cb7.symm
  replace g_cb7 := Nat.le_trans hs g_cb7
  replace hb := hb.trans (hB5.mono hs)
  replace hs := Nat.le_trans hs (hB5.size)
  replace o_m := obj_below o_m hB5
  replace o_x3 := obj_below o_x3 hB5
  replace p_xs := p_xs.below hB5
  refine L_new (fun b => .pointer (some ⟨b, 0, none⟩)) (.cells [(.pointer none)].toArray 66 (0, 0)) (by kernel_rfl) (by kernel_rfl) ?_
  intro b8 w9 hN10
  have ne_m_x5 : b_m ≠ b8 := by have := (obj_lt o_m); have := hN10.num; omega
  have ne_x5_m := ne_m_x5.symm
  have ne_x3_x5 : b1 ≠ b8 := by have := (obj_lt o_x3); have := hN10.num; omega
  have ne_x5_x3 := ne_x3_x5.symm
  have ne_cb7_x5 : cb7 ≠ b8 := by have := (obj_lt o_cb7); have := hN10.num; omega
  have ne_x5_cb7 := ne_cb7_x5.symm
  have g_x5 : w.heap.size ≤ b8 := by rw [hN10.num]; exact hs
  replace hb := hb.trans (hN10.below.mono hs)
  replace hs := Nat.le_trans hs (hN10.below.size)
  replace o_m := obj_below o_m hN10.below
  replace o_x3 := obj_below o_x3 hN10.below
  replace o_cb7 := obj_below o_cb7 hN10.below
  replace p_xs := p_xs.below hN10.below
  have o_x5 := hN10.here
  refine L_store b8 0 (.pointer (some ⟨cb7, 0, none⟩)) [(.pointer none)] [(.pointer (some ⟨cb7, 0, none⟩))] 66 (by kernel_rfl) (by kernel_rfl) rfl (by kernel_rfl) o_x5 (by simp) rfl ?_
  intro w11 hW12
  replace hb := hb.trans (hW12.below g_x5)
  replace hs := Nat.le_trans hs (Nat.le_of_eq hW12.size.symm)
  have n_o_m := obj_wrote o_m hW12 (obj_ne o_m o_x5 (by simp))
  have n_o_x3 := obj_wrote o_x3 hW12 (obj_ne o_x3 o_x5 (by simp))
  have n_o_cb7 := obj_wrote o_cb7 hW12 (obj_ne o_cb7 o_x5 (by simp))
  have n_p_xs := in_p_xs.below hb
  replace o_m := n_o_m; clear n_o_m
  replace o_x3 := n_o_x3; clear n_o_x3
  replace o_cb7 := n_o_cb7; clear n_o_cb7
  replace p_xs := n_p_xs; clear n_p_xs
  replace o_x5 := hW12.here
  refine L_nil (thenQ_normal (W_seq (W_seq (W_region (L_mv (L_call 61 [(.pointer (some ⟨b_m, 0, none⟩))] (by kernel_rfl) (by kernel_rfl) (c_all_I b_m v_xs xs _ o_m p_xs) ?_))))))
  rintro _ w13 ⟨cb16, rfl, o_cb16, g_cb16, hB14⟩
  have ne_m_cb16 : b_m ≠ cb16 := by have := (obj_lt o_m); omega
  have ne_cb16_m := ne_m_cb16.symm
  have ne_x3_cb16 : b1 ≠ cb16 := by have := (obj_lt o_x3); omega
  have ne_cb16_x3 := ne_x3_cb16.symm
  have ne_cb7_cb16 : cb7 ≠ cb16 := by have := (obj_lt o_cb7); omega
  have ne_cb16_cb7 := ne_cb7_cb16.symm
  have ne_x5_cb16 : b8 ≠ cb16 := by have := (obj_lt o_x5); omega
  have ne_cb16_x5 := ne_x5_cb16.symm
  replace g_cb16 := Nat.le_trans hs g_cb16
  replace hb := hb.trans (hB14.mono hs)
  replace hs := Nat.le_trans hs (hB14.size)
  replace o_m := obj_below o_m hB14
  replace o_x3 := obj_below o_x3 hB14
  replace o_cb7 := obj_below o_cb7 hB14
  replace o_x5 := obj_below o_x5 hB14
  replace p_xs := p_xs.below hB14
  refine L_nil (thenQ_normal (W_block ?_))
  have lt_m_0 : b_m < w13.heap.size := obj_lt o_m
  have lt_x3_0 : b1 < w13.heap.size := obj_lt o_x3
  have lt_cb7_0 : cb7 < w13.heap.size := obj_lt o_cb7
  have lt_x5_0 : b8 < w13.heap.size := obj_lt o_x5
  have lt_cb16_0 : cb16 < w13.heap.size := obj_lt o_cb16
  have hs_0 := hs
  have hb_0 := hb
  refine W_range 103 [(.pointer (some ⟨cb16, 0, none⟩))] xs (by kernel_rfl) (fun _ _ => rfl) (it_all_I cb16 b_m v_xs xs (by omega)) ⟨o_cb16, o_m, p_xs⟩ ((fun D A B h hc hd => ⟨obj_ch h.1 hc (fun h => Nat.not_lt.2 (hd _ h) lt_cb16_0), obj_ch h.2.1 hc (fun h => Nat.not_lt.2 (hd _ h) lt_m_0), Rd.ch p_xs (Nat.le_refl _) h.2.2 hc hd⟩)) (by intro x; rfl) (fun K pre A => ∃ (mm : List SpS) (v_cb7_0 : Value), (A.heap[b_m]? = some (.cells [v_xs, (.bool true)].toArray 109 (0, 0))) ∧ (A.heap[b1]? = some (.cells [.nilFunc].toArray 72 (0, 0))) ∧ (A.heap[cb7]? = some (.cells [v_cb7_0, (.bool true)].toArray 136 (0, 0))) ∧ (A.heap[b8]? = some (.cells [(.pointer (some ⟨cb7, 0, none⟩))].toArray 66 (0, 0))) ∧ (A.heap[cb16]? = some (.cells [(.pointer (some ⟨b_m, 0, none⟩))].toArray 41 (0, 0))) ∧ (Row A w.heap.size 138 3 encSpanS v_cb7_0 mm) ∧ (∀ g, Value.ownBlock v_cb7_0 = some g → ¬ Iv w13.heap.size K g) ∧ (Below w.heap.size w A) ∧ (mm = turnAll eqS (fun _ => ([] : List UInt8)) pre) ∧ (RiseG 0 mm)) (fun K c pre A => False) ?_ ?_ ?_ ?_ ?_ ?_
  · intro A hA
    exact ⟨[], (.slice none 0 0), obj_below o_m hA, obj_below o_x3 hA, obj_below o_cb7 hA, obj_below o_x5 hA, obj_below o_cb16 hA, Row.nil _ _ _ _ _, nr_nil _ _, hb.trans (hA.mono hs), by rfl, by trivial⟩
  · rintro K pre A B ⟨mm, v_cb7_0, o_m, o_x3, o_cb7, o_x5, o_cb16, r_cb7_0, nr_r_cb7_0, hb, r1, r2⟩ hc
    exact ⟨mm, v_cb7_0, obj_ch o_m hc (fun h => Nat.not_lt.2 h.1 lt_m_0), obj_ch o_x3 hc (fun h => Nat.not_lt.2 h.1 lt_x3_0), obj_ch o_cb7 hc (fun h => Nat.not_lt.2 h.1 lt_cb7_0), obj_ch o_x5 hc (fun h => Nat.not_lt.2 h.1 lt_x5_0), obj_ch o_cb16 hc (fun h => Nat.not_lt.2 h.1 lt_cb16_0), r_cb7_0.ch hc nr_r_cb7_0, nr_r_cb7_0, hc.below hb hb.size (fun k h => Nat.le_trans hs_0 h.1), r1, r2⟩
  · intro K c _ A B h hc; exact h.elim
  · intro l K pre x A hi hN hK0 hK hpre
    obtain ⟨mm, v_cb7_0, o_m, o_x3, o_cb7, o_x5, o_cb16, r_cb7_0, nr_r_cb7_0, hb, r1, r2⟩ := hi
    have hs := hb.size
    have hk := Kp.refl (w13.heap.size) K A
    have nv_m : ¬ Iv (w13.heap.size) K b_m := fun h => Nat.not_lt.2 h.1 lt_m_0
    have nv_x3 : ¬ Iv (w13.heap.size) K b1 := fun h => Nat.not_lt.2 h.1 lt_x3_0
    have nv_cb7 : ¬ Iv (w13.heap.size) K cb7 := fun h => Nat.not_lt.2 h.1 lt_cb7_0
    have nv_x5 : ¬ Iv (w13.heap.size) K b8 := fun h => Nat.not_lt.2 h.1 lt_x5_0
    have nv_cb16 : ¬ Iv (w13.heap.size) K cb16 := fun h => Nat.not_lt.2 h.1 lt_cb16_0
    have p_xs := in_p_xs.below hb
    replace o_cb16 := hN.1
    replace o_m := hN.2.1
    have hx := hrx.pre hpre
    refine W_seq (W_region (L_new (fun b => .pointer (some ⟨b, 0, none⟩)) (.cells [(.int .i32 0), (.int .i32 0)].toArray 29 (0, 0)) (by kernel_rfl) (by kernel_rfl) ?_))
    intro b17 w18 hN19
    have ne_m_x6 : b_m ≠ b17 := by have := (obj_lt o_m); have := hN19.num; omega
    have ne_x6_m := ne_m_x6.symm
    have ne_x3_x6 : b1 ≠ b17 := by have := (obj_lt o_x3); have := hN19.num; omega
    have ne_x6_x3 := ne_x3_x6.symm
    have ne_cb7_x6 : cb7 ≠ b17 := by have := (obj_lt o_cb7); have := hN19.num; omega
    have ne_x6_cb7 := ne_cb7_x6.symm
    have ne_x5_x6 : b8 ≠ b17 := by have := (obj_lt o_x5); have := hN19.num; omega
    have ne_x6_x5 := ne_x5_x6.symm
    have ne_cb16_x6 : cb16 ≠ b17 := by have := (obj_lt o_cb16); have := hN19.num; omega
    have ne_x6_cb16 := ne_cb16_x6.symm
    have g_x6 : w.heap.size ≤ b17 := by rw [hN19.num]; exact hs
    have nv_x6 : ¬ Iv w13.heap.size K b17 := fun h => by have := h.2; have := hN19.num; omega
    replace hb := hb.trans (hN19.below.mono hs)
    replace hk := hk.ch (Ch.of_below hN19.below) hK (fun _ h => h.elim)
    replace hK := Nat.le_trans hK (hN19.below.size)
    replace hs := Nat.le_trans hs (hN19.below.size)
    replace o_m := obj_below o_m hN19.below
    replace o_x3 := obj_below o_x3 hN19.below
    replace o_cb7 := obj_below o_cb7 hN19.below
    replace o_x5 := obj_below o_x5 hN19.below
    replace o_cb16 := obj_below o_cb16 hN19.below
    replace p_xs := p_xs.below hN19.below
    replace r_cb7_0 := r_cb7_0.below hN19.below
    have o_x6 := hN19.here
    refine L_storeA b17 0 [(.int .i32 x.1), (.int .i32 x.2.1)] [(.int .i32 0), (.int .i32 0)] [(.int .i32 x.1), (.int .i32 x.2.1)] 29 (by kernel_rfl) (by kernel_rfl) rfl (by kernel_rfl) o_x6 (by kernel_rfl) rfl ?_
    intro w20 hW21
    replace hb := hb.trans (hW21.below g_x6)
    replace hk := hk.ch (Ch.of_wrote hW21) hK (fun k e h => nv_x6 (e ▸ h))
    replace hK := Nat.le_trans hK (Nat.le_of_eq hW21.size.symm)
    replace hs := Nat.le_trans hs (Nat.le_of_eq hW21.size.symm)
    have n_o_m := obj_wrote o_m hW21 (obj_ne o_m o_x6 (by simp))
    have n_o_x3 := obj_wrote o_x3 hW21 (obj_ne o_x3 o_x6 (by simp))
    have n_o_cb7 := obj_wrote o_cb7 hW21 (obj_ne o_cb7 o_x6 (by simp))
    have n_o_x5 := obj_wrote o_x5 hW21 (obj_ne o_x5 o_x6 (by simp))
    have n_o_cb16 := obj_wrote o_cb16 hW21 (obj_ne o_cb16 o_x6 (by simp))
    have n_p_xs := in_p_xs.below hb
    have n_r_cb7_0 := r_cb7_0.wrote hW21 (r_cb7_0.ne o_x6 (by simp))
    replace o_m := n_o_m; clear n_o_m
    replace o_x3 := n_o_x3; clear n_o_x3
    replace o_cb7 := n_o_cb7; clear n_o_cb7
    replace o_x5 := n_o_x5; clear n_o_x5
    replace o_cb16 := n_o_cb16; clear n_o_cb16
    replace p_xs := n_p_xs; clear n_p_xs
    replace r_cb7_0 := n_r_cb7_0; clear n_r_cb7_0
    replace o_x6 := hW21.here
    refine L_nil (thenQ_normal (W_region (L_as (L_nil ?_))))
    refine thenQ_normal ⟨hk, ?_⟩
    intro w22 hc23
    replace o_m := obj_ch o_m hc23 nv_m
    replace o_x3 := obj_ch o_x3 hc23 nv_x3
    replace o_cb7 := obj_ch o_cb7 hc23 nv_cb7
    replace o_x5 := obj_ch o_x5 hc23 nv_x5
    replace o_cb16 := obj_ch o_cb16 hc23 nv_cb16
    replace o_x6 := obj_ch o_x6 hc23 nv_x6
    replace r_cb7_0 := r_cb7_0.ch hc23 nr_r_cb7_0
    replace hb := hc23.below hb hs (fun k h => Nat.le_trans hs_0 h.1)
    replace p_xs := in_p_xs.below hb
    replace hs := hb.size
    replace hK := Nat.le_trans hK hc23.size
    replace hk := Kp.refl (w13.heap.size) K w22
    refine W_block (W_seq (W_region (L_as (L_nil (thenQ_normal (W_seq (W_seq (W_region (L_load b1 0 .nilFunc (by kernel_rfl) (by kernel_rfl) (cell_obj o_x3 rfl) (L_run (.bool false) (by kernel_rfl) (by kernel_rfl) (L_nil (thenQ_normal (W_false (by kernel_rfl) (W_skip (thenQ_normal (W_region (L_load b8 0 (.pointer (some ⟨cb7, 0, none⟩)) (by kernel_rfl) (by kernel_rfl) (cell_obj o_x5 rfl) (L_loadA b17 0 [(.int .i32 x.1), (.int .i32 x.2.1)] (by kernel_rfl) (by kernel_rfl) (by kernel_rfl) (cells_at o_x6 0 (by kernel_rfl)) (L_mv (L_call 45 [(.pointer (some ⟨cb7, 0, none⟩)), (Value.agg #[(.int .i32 x.1), (.int .i32 x.2.1)]), (S ([] : List UInt8))] (by kernel_rfl) (by kernel_rfl) (c_lay_S cb7 v_cb7_0 mm x.1 x.2.1 ([] : List UInt8) w.heap.size _ hs o_cb7 g_cb7 r_cb7_0 (by exact r2) (by omega) (by omega)) ?_))))))))))))))))))))
    rintro _ w25 ⟨q24, rfl, ho28, r_q24, dm26, hC27⟩
    have hnk : ∀ k, Dm cb7 v_cb7_0 k → ¬ Iv (w13.heap.size) K k := fun k e => e.elim (fun x => by rw [x]; exact nv_cb7) (fun x => nr_r_cb7_0 k x)
    have nr_r_q24 : ∀ g, Value.ownBlock q24 = some g → ¬ Iv (w13.heap.size) K g := fun g hg => (dm26 g hg).elim (fun x y => by have := y.2; omega) (fun e => hnk g e)
    replace hk := hk.ch hC27 hK hnk
    replace hK := Nat.le_trans hK hC27.size
    replace hb := hC27.below hb hs (fun k e => e.elim (fun x => x ▸ g_cb7) (fun x => (World.ownsRow.lt r_cb7_0 k x).1))
    replace hs := Nat.le_trans hs hC27.size
    have n_o_m := obj_ch_mut o_m hC27 (obj_ne o_m o_cb7 (by simp)) (r_cb7_0.ne o_m (by simp))
    have n_o_x3 := obj_ch_mut o_x3 hC27 (obj_ne o_x3 o_cb7 (by simp)) (r_cb7_0.ne o_x3 (by simp))
    have n_o_x5 := obj_ch_mut o_x5 hC27 (obj_ne o_x5 o_cb7 (by simp)) (r_cb7_0.ne o_x5 (by simp))
    have n_o_cb16 := obj_ch_mut o_cb16 hC27 (obj_ne o_cb16 o_cb7 (by simp)) (r_cb7_0.ne o_cb16 (by simp))
    have n_o_x6 := obj_ch_mut o_x6 hC27 (obj_ne o_x6 o_cb7 (by simp)) (r_cb7_0.ne o_x6 (by simp))
    have n_p_xs := in_p_xs.below hb
    replace o_m := n_o_m; clear n_o_m
    replace o_x3 := n_o_x3; clear n_o_x3
    replace o_x5 := n_o_x5; clear n_o_x5
    replace o_cb16 := n_o_cb16; clear n_o_cb16
    replace o_x6 := n_o_x6; clear n_o_x6
    replace p_xs := n_p_xs; clear n_p_xs
    replace o_cb7 := ho28
    refine L_nil (blkQ_normal ?_)
    refine round_normal hk ⟨o_cb16, o_m, p_xs⟩ ⟨(layF eqS mm x.1 x.2.1 ([] : List UInt8)), q24, o_m, o_x3, o_cb7, o_x5, o_cb16, r_q24, nr_r_q24, hb, ?_, ?_⟩
    · first | (rw [r1]; exact (turnAll_snoc _ _ _).symm) | (rw [turnAll_snoc, r1]; congr 1; symm; assumption)
    · exact layF_rise r2
  · intro K A hi hsz o_D0
    obtain ⟨mm, v_cb7_0, o_m, o_x3, o_cb7, o_x5, o_cb16, r_cb7_0, nr_r_cb7_0, hb, r1, r2⟩ := hi
    have p_xs := in_p_xs.below hb
    have ne_m_D0 : b_m ≠ w13.heap.size := Nat.ne_of_lt lt_m_0
    have ne_D0_m := ne_m_D0.symm
    have ne_x3_D0 : b1 ≠ w13.heap.size := Nat.ne_of_lt lt_x3_0
    have ne_D0_x3 := ne_x3_D0.symm
    have ne_cb7_D0 : cb7 ≠ w13.heap.size := Nat.ne_of_lt lt_cb7_0
    have ne_D0_cb7 := ne_cb7_D0.symm
    have ne_x5_D0 : b8 ≠ w13.heap.size := Nat.ne_of_lt lt_x5_0
    have ne_D0_x5 := ne_x5_D0.symm
    have ne_cb16_D0 : cb16 ≠ w13.heap.size := Nat.ne_of_lt lt_cb16_0
    have ne_D0_cb16 := ne_cb16_D0.symm
    have hs : w.heap.size ≤ _ := hb.size
    refine blkQ_normal (thenQ_normal (W_seq (W_region (L_load b8 0 (.pointer (some ⟨cb7, 0, none⟩)) (by kernel_rfl) (by kernel_rfl) (cell_obj o_x5 rfl) (L_as (L_nil (thenQ_normal (W_ret (end_retM (ds := [⟨.collected w13.heap.size, #[]⟩]) (by kernel_rfl) (Lv_mark o_D0 ?_))))))))))
    intro w29 hW30
    replace hb := hb.trans (hW30.below hs_0)
    replace hs := Nat.le_trans hs (Nat.le_of_eq hW30.size.symm)
    have n_o_m := obj_wrote o_m hW30 (obj_ne o_m o_D0 (by simp))
    have n_o_x3 := obj_wrote o_x3 hW30 (obj_ne o_x3 o_D0 (by simp))
    have n_o_cb7 := obj_wrote o_cb7 hW30 (obj_ne o_cb7 o_D0 (by simp))
    have n_o_x5 := obj_wrote o_x5 hW30 (obj_ne o_x5 o_D0 (by simp))
    have n_o_cb16 := obj_wrote o_cb16 hW30 (obj_ne o_cb16 o_D0 (by simp))
    have n_p_xs := in_p_xs.below hb
    have n_r_cb7_0 := r_cb7_0.wrote hW30 (r_cb7_0.ne o_D0 (by simp))
    replace o_m := n_o_m; clear n_o_m
    replace o_x3 := n_o_x3; clear n_o_x3
    replace o_cb7 := n_o_cb7; clear n_o_cb7
    replace o_x5 := n_o_x5; clear n_o_x5
    replace o_cb16 := n_o_cb16; clear n_o_cb16
    replace p_xs := n_p_xs; clear n_p_xs
    replace r_cb7_0 := n_r_cb7_0; clear n_r_cb7_0
    replace o_D0 := hW30.here
    refine Lv_nil [.tmp 4] [(.pointer (some ⟨cb7, 0, none⟩))] rfl ⟨by kernel_rfl, trivial⟩ ?_
    have e51 : mm = (turnAll eqS (fun _ => ([] : List UInt8)) xs) := by first | exact r1 | rfl
    exact ⟨v_cb7_0, cb7, rfl, r_cb7_0.cast e51, o_cb7, g_cb7, hb⟩
  · intro K c _ x A _ h; exact h.elim


set_option maxHeartbeats 4000000 in
set_option maxRecDepth 100000 in
theorem c_of (v_l : Value) (l : List (Int × Int)) (v_val : Value) (val : List (Int)) (w : World) (p_l : Rd w encRg v_l l) (p_val : Rd w encInt v_val val) (hlw : ∀ x ∈ l, (-2147483648 ≤ x.1 ∧ x.1 ≤ 2147483647) ∧ (-2147483648 ≤ x.2 ∧ x.2 ≤ 2147483647)) :
    Calls Try.prog 28 #[v_l, v_val] w (Ret fun v w' => ∃ (q0 : Value) (cb0 : Nat), v = (.pointer (some ⟨cb0, 0, none⟩)) ∧ Row w' w.heap.size 113 3 encSpanI q0 (ofG l val) ∧ w'.heap[cb0]? = some (.cells [q0, (.bool true)].toArray 109 (0, 0)) ∧ w.heap.size ≤ cb0 ∧ Below w.heap.size w w') := by
  refine enter (args := [v_l, v_val]) Try.func28 rfl (by kernel_rfl : _ = 37) (by kernel_rfl) ?_
  have hb := Below.refl w.heap.size w
  have hs : w.heap.size ≤ w.heap.size := Nat.le_refl _
  have in_p_l := p_l
  have in_p_val := p_val
  refine W_seq (W_region (L_as (L_nil (thenQ_normal (W_seq (W_region (L_call 14 [] (by kernel_rfl) (by kernel_rfl) (c_new_I  _ ) ?_)))))))
  rintro _ w1 ⟨cb4, rfl, o_cb4, g_cb4, hB2⟩
  replace g_cb4 := Nat.le_trans hs g_cb4
  replace hb := hb.trans (hB2.mono hs)
  replace hs := Nat.le_trans hs (hB2.size)
  replace p_l := p_l.below hB2
  replace p_val := p_val.below hB2
  refine L_as (L_nil (thenQ_normal (W_seq (W_seq (W_region (L_mv (L_run (.bool false) (by kernel_rfl) (by kernel_rfl) (L_nil (thenQ_normal (W_false (by kernel_rfl) (W_skip (thenQ_normal (W_seq (W_seq (W_region (L_as (L_nil (thenQ_normal (W_block ?_)))))))))))))))))))
  refine W_loop (fun m s0 w0 => ∃ (i : Nat) (am : List SpI) (v_cb4_0 : Value), (m = 40 - i) ∧ (s0.ds = []) ∧ (s0.f 0 = v_l) ∧ (s0.f 1 = v_val) ∧ (s0.f 4 = (.pointer none)) ∧ (s0.f 5 = (.pointer (some ⟨cb4, 0, none⟩))) ∧ (s0.f 6 = (.int .i64 ((i : Nat) : Int))) ∧ (Rd w0 encRg v_l l) ∧ (Rd w0 encInt v_val val) ∧ (Row w0 w.heap.size 113 3 encSpanI v_cb4_0 am) ∧ (w0.heap[cb4]? = some (.cells [v_cb4_0, (.bool true)].toArray 109 (0, 0))) ∧ (Below w.heap.size w w0) ∧ (w.heap.size ≤ w0.heap.size) ∧ (i ≤ l.length ∧ i ≤ val.length ∧ i ≤ 40) ∧ (RiseG 0 am) ∧ (am = ofN l val i)) _ ⟨0, [], (.slice none 0 0), rfl, by kernel_rfl, by kernel_rfl, by kernel_rfl, by kernel_rfl, by kernel_rfl, by kernel_rfl, p_l, p_val, Row.nil _ _ _ _ _, o_cb4, hb, hs, (by omega), trivial, rfl⟩ ?_
  rintro m5 s6 w7 ⟨i, am, v_cb4_0, hm, hds, f_0, f_1, f_4, f_5, f_6, p_l, p_val, r_cb4_0, o_cb4, hb, hs, i1, i2, i3⟩
  refine W_set 0 _ f_0 (W_set 1 _ f_1 (W_set 4 _ f_4 (W_set 5 _ f_5 (W_set 6 _ f_6 ?_))))
  clear f_0 f_1 f_4 f_5 f_6
  refine W_seq (W_seq (W_region (L_mv (L_mv (L_len 22 29 (l).length v_l rfl Try.underlying22 (p_l).len (by kernel_rfl) (L_cmp .i64 ((i : Nat) : Int) (((l).length : Nat) : Int) (i < (l).length) rfl (cmpN_lt i ((l).length)) (by kernel_rfl) (by kernel_rfl) ?_ ?_))))))
  · intro h8
    replace h8 : i < (l).length := by omega
    refine L_mv (L_want (by kernel_rfl) (L_mv (L_want (by kernel_rfl) (L_mv (L_want (by kernel_rfl) (L_len 45 3 (val).length v_val rfl Try.underlying45 (p_val).len (by kernel_rfl) (L_want (by kernel_rfl) (L_cmp .i64 ((i : Nat) : Int) (((val).length : Nat) : Int) (i < (val).length) rfl (cmpN_lt i ((val).length)) (by kernel_rfl) (by kernel_rfl) ?_ ?_))))))))
    · intro h9
      replace h9 : i < (val).length := by omega
      refine L_pickT (by kernel_rfl) (L_mv (L_want (by kernel_rfl) (L_mv (L_want (by kernel_rfl) (L_cmp .i64 ((i : Nat) : Int) ((40 : Nat) : Int) (i < 40) rfl (cmpN_lt i 40) (by kernel_rfl) (by kernel_rfl) ?_ ?_)))))
      · intro h10
        replace h10 : i < 40 := by omega
        refine L_pickT (by kernel_rfl) (L_nil (thenQ_normal (W_true (by kernel_rfl) (W_skip (thenQ_normal (W_seq (W_block (W_pre 9 10 1 (by kernel_rfl) (by kernel_rfl) (by kernel_rfl) (by kernel_rfl) (by kernel_rfl) (by kernel_rfl) (by kernel_rfl) (Lq_mv (Lq_mv (Lq_mv ?_)))))))))))
        have hz := get_some l i (by omega); obtain ⟨x11, hx12⟩ := hz
        have hz := (p_l).at (k := 2) (fun _ => rfl) hx12
        obtain ⟨g13, off14, hl15, hc16⟩ := hz
        have hw_x11 := hlw _ (List.mem_of_getElem? hx12)
        refine Lq_ixaddr (k := .i64) v_l i _ g13 off14 el22 hl15 (by omega) (by kernel_rfl) (by kernel_rfl) (Lq_loadA g13 (off14 + i * 2) [(.int .i32 x11.1), (.int .i32 x11.2)] (by kernel_rfl) (fun _ => by kernel_rfl) (fun _ => by kernel_rfl) hc16 (Lq_mv (Lq_mv ?_)))
        have hz := get_some val i (by omega); obtain ⟨x17, hx18⟩ := hz
        have hz := (p_val).at (k := 1) (fun _ => rfl) hx18
        obtain ⟨g19, off20, hl21, hc22⟩ := hz
        refine Lq_ixaddr (k := .i64) v_val i _ g19 off20 el45 hl21 (by omega) (by kernel_rfl) (by kernel_rfl) (Lq_load g19 (off20 + i * 1) (.int .i64 x17) (by kernel_rfl) (fun _ => by kernel_rfl) (hc22 0 _ rfl) (Lq_nil ?_))
        intro w23 hB24
        replace hb := hb.trans (hB24.mono hs)
        replace hs := Nat.le_trans hs (hB24.size)
        replace o_cb4 := obj_below o_cb4 hB24
        replace p_l := p_l.below hB24
        replace p_val := p_val.below hB24
        replace r_cb4_0 := r_cb4_0.below hB24
        refine I_all1 9 (by kernel_rfl) ?_
        refine I_op 9 rfl ?_ rfl
        refine L_call 16 [(.pointer (some ⟨cb4, 0, none⟩)), (Value.agg #[(.int .i32 x11.1), (.int .i32 x11.2)]), (.int .i64 x17)] (by kernel_rfl) (by kernel_rfl) (c_lay_I cb4 v_cb4_0 am x11.1 x11.2 x17 w.heap.size _ hs o_cb4 g_cb4 r_cb4_0 (by exact i2) (by omega) (by omega)) ?_
        rintro _ w26 ⟨q25, rfl, ho29, r_q25, dm27, hC28⟩
        replace hb := hC28.below hb hs (fun k e => e.elim (fun x => x ▸ g_cb4) (fun x => (World.ownsRow.lt r_cb4_0 k x).1))
        replace hs := Nat.le_trans hs hC28.size
        have n_p_l := in_p_l.below hb
        have n_p_val := in_p_val.below hb
        replace p_l := n_p_l; clear n_p_l
        replace p_val := n_p_val; clear n_p_val
        replace o_cb4 := ho29
        refine L_nil ?_
        refine ⟨rfl, ?_⟩
        refine I_done (by kernel_rfl) ?_
        refine blkQ_normal (thenQ_normal (W_region (L_mv (L_addN i 1 (by omega) (by kernel_rfl) (by kernel_rfl) (L_as (L_nil ?_))))))
        refine thenQ_normal ⟨_, ?_, (i + 1), (layF eqI am x11.1 x11.2 x17), q25, rfl, hds, by kernel_rfl, by kernel_rfl, by kernel_rfl, by kernel_rfl, by kernel_rfl, p_l, p_val, r_q25, o_cb4, hb, hs, ?_, ?_, ?_⟩
        · omega
        · omega
        · exact layF_rise i2
        · rw [i3]; exact ofN_step (by assumption) (by assumption)
      · intro h30
        replace h30 : 40 ≤ i := by omega
        refine L_pickT (by kernel_rfl) (L_nil (thenQ_normal (W_false (by kernel_rfl) (W_exit (thenQ_exit (thenQ_exit (blkQ_exit (thenQ_normal (W_seq (W_region (L_mv (L_as (L_nil (thenQ_normal (W_ret ?_)))))))))))))))
        refine end_ret [.tmp 4] [(.pointer (some ⟨cb4, 0, none⟩))] rfl hds ⟨by kernel_rfl, trivial⟩ ?_
        have e51 : am = (ofG l val) := by rw [i3]; exact ofN_done i1.1 i1.2.1 i1.2.2 (by omega)
        exact ⟨v_cb4_0, cb4, rfl, r_cb4_0.cast e51, o_cb4, g_cb4, hb⟩
    · intro h31
      replace h31 : (val).length ≤ i := by omega
      refine L_pickT (by kernel_rfl) (L_mv (L_skip (by kernel_rfl) (L_skip (by kernel_rfl) (L_pickF (by kernel_rfl) (L_nil (thenQ_normal (W_false (by kernel_rfl) (W_exit (thenQ_exit (thenQ_exit (blkQ_exit (thenQ_normal (W_seq (W_region (L_mv (L_as (L_nil (thenQ_normal (W_ret ?_)))))))))))))))))))
      refine end_ret [.tmp 4] [(.pointer (some ⟨cb4, 0, none⟩))] rfl hds ⟨by kernel_rfl, trivial⟩ ?_
      have e51 : am = (ofG l val) := by rw [i3]; exact ofN_done i1.1 i1.2.1 i1.2.2 (by omega)
      exact ⟨v_cb4_0, cb4, rfl, r_cb4_0.cast e51, o_cb4, g_cb4, hb⟩
  · intro h32
    replace h32 : (l).length ≤ i := by omega
    refine L_mv (L_skip (by kernel_rfl) (L_skip (by kernel_rfl) (L_skip (by kernel_rfl) (L_skip (by kernel_rfl) (L_pickF (by kernel_rfl) (L_mv (L_skip (by kernel_rfl) (L_skip (by kernel_rfl) (L_pickF (by kernel_rfl) (L_nil (thenQ_normal (W_false (by kernel_rfl) (W_exit (thenQ_exit (thenQ_exit (blkQ_exit (thenQ_normal (W_seq (W_region (L_mv (L_as (L_nil (thenQ_normal (W_ret ?_))))))))))))))))))))))))
    refine end_ret [.tmp 4] [(.pointer (some ⟨cb4, 0, none⟩))] rfl hds ⟨by kernel_rfl, trivial⟩ ?_
    have e51 : am = (ofG l val) := by rw [i3]; exact ofN_done i1.1 i1.2.1 i1.2.2 (by omega)
    exact ⟨v_cb4_0, cb4, rfl, r_cb4_0.cast e51, o_cb4, g_cb4, hb⟩

end Go.Proofs.Ythjgnnfonofgkaa
