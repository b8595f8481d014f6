/- Walks, written by my program walk.py out of the specification pmap.py: each theorem says what one function returns and that it leaves memory as it was. -/
import Derived.Test.YtmjkegpbbhafjaaPMap
import Derived.Test.YtmjkegpbbhafjaaWphex
import Derived.Test.YtmjkegpbbhafjaaFKr
import Derived.Test.YtmjkegpbbhafjaaProg
import Derived.Tactics2
namespace Go.Proofs.Ytmjkegpbbhafjaa
open Go Go.RowKit Go.FK
set_option linter.unusedVariables false

theorem el148 : Elem Try.prog 148 152 3 24 := ⟨Try.underlying148, by kernel_rfl, rfl⟩
set_option maxHeartbeats 4000000 in
set_option maxRecDepth 100000 in
theorem c_new_S (w : World) :
    Calls Try.prog 54 #[] w (Ret fun v w' => ∃ (cb0 : Nat), v = (.pointer (some ⟨cb0, 0, none⟩)) ∧ w'.heap[cb0]? = some (.cells [(.slice none 0 0), (.bool true)].toArray 150 (0, 0)) ∧ w.heap.size ≤ cb0 ∧ Below w.heap.size w w') := by
  refine enter (args := []) Try.func54 rfl (by kernel_rfl : _ = 3) (by kernel_rfl) ?_
  have hb := Below.refl w.heap.size w
  have hs : w.heap.size ≤ w.heap.size := Nat.le_refl _
  refine W_seq (W_region (L_as (L_nil (thenQ_normal (W_seq (W_region (L_run (Value.agg #[(.slice none 0 0), (.bool true)]) (by kernel_rfl) (by kernel_rfl) (L_new (fun b => .pointer (some ⟨b, 0, none⟩)) (.cells [(.slice none 0 0), (.bool true)].toArray 150 (0, 0)) (by kernel_rfl) (by kernel_rfl) ?_))))))))
  intro b1 w2 hN3
  have g_x2 : w.heap.size ≤ b1 := by rw [hN3.num]; exact hs
  replace hb := hb.trans (hN3.below.mono hs)
  replace hs := Nat.le_trans hs (hN3.below.size)
  have o_x2 := hN3.here
  refine L_as (L_nil (thenQ_normal (W_ret ?_)))
  refine end_ret [.tmp 0] [(.pointer (some ⟨b1, 0, none⟩))] rfl rfl ⟨by kernel_rfl, trivial⟩ ?_
  exact ⟨b1, rfl, o_x2, g_x2, hb⟩

set_option maxHeartbeats 4000000 in
set_option maxRecDepth 100000 in
theorem c_none_S (b_m : Nat) (v_xs : Value) (xs : List (Int × Int × List UInt8)) (w : World) (o_m : w.heap[b_m]? = some (.cells [v_xs, (.bool true)].toArray 150 (0, 0))) (p_xs : Rd w encSpanS v_xs xs) :
    Calls Try.prog 86 #[(.pointer (some ⟨b_m, 0, none⟩))] w (Ret fun v w' => v = (.bool false) ∧ Below w.heap.size w w') := by
  refine enter (args := [(.pointer (some ⟨b_m, 0, none⟩))]) Try.func86 rfl (by kernel_rfl : _ = 12) (by kernel_rfl) ?_
  have hb := Below.refl w.heap.size w
  have hs : w.heap.size ≤ w.heap.size := Nat.le_refl _
  have in_p_xs := p_xs
  refine W_seq (W_region (L_as (L_nil (thenQ_normal (W_seq (W_region (L_mv (L_run (.bool false) (by kernel_rfl) (by kernel_rfl) (L_mv (L_want (by kernel_rfl) (L_mv (L_want (by kernel_rfl) (L_run (.pointer (some ⟨b_m, 0, none⟩)) (by kernel_rfl) (by kernel_rfl) (L_want (by kernel_rfl) (L_run (.pointer (some ⟨b_m, 1, none⟩)) (by kernel_rfl) (by kernel_rfl) (L_want (by kernel_rfl) (L_load b_m 1 (.bool true) (by kernel_rfl) (by kernel_rfl) (cell_obj o_m rfl) (L_want (by kernel_rfl) (L_not true (by kernel_rfl) (L_pickF (by kernel_rfl) (L_as (L_nil (thenQ_normal (W_ret ?_))))))))))))))))))))))))
  refine end_ret [.tmp 2] [(.bool false)] rfl rfl ⟨by kernel_rfl, trivial⟩ ?_
  have e0 : false = false := by rfl
  exact ⟨congrArg Value.bool e0, hb⟩

set_option maxHeartbeats 4000000 in
set_option maxRecDepth 100000 in
theorem c_cmp_S (lo : Int) (hi : Int) (val : List UInt8) (x : Int) (w : World) (h1 : -2147483648 ≤ hi ∧ hi ≤ 2147483647) (h2 : -2147483648 ≤ x ∧ x ≤ 2147483647) :
    Calls Try.prog 140 #[(Value.agg #[(.int .i32 lo), (.int .i32 hi), (S val)]), (.int .i32 x)] w (Ret fun v w' => v = (.int .i64 (hi - x)) ∧ Below w.heap.size w w') := by
  refine enter (args := [(Value.agg #[(.int .i32 lo), (.int .i32 hi), (S val)]), (.int .i32 x)]) Try.func140 rfl (by kernel_rfl : _ = 11) (by kernel_rfl) ?_
  have hb := Below.refl w.heap.size w
  have hs : w.heap.size ≤ w.heap.size := Nat.le_refl _
  refine W_seq (W_region (L_new (fun b => .pointer (some ⟨b, 0, none⟩)) (.cells [(.int .i32 lo), (.int .i32 hi), (S val)].toArray 152 (0, 0)) (by kernel_rfl) (by kernel_rfl) ?_))
  intro b1 w2 hN3
  have g_x2 : w.heap.size ≤ b1 := by rw [hN3.num]; exact hs
  replace hb := hb.trans (hN3.below.mono hs)
  replace hs := Nat.le_trans hs (hN3.below.size)
  have o_x2 := hN3.here
  refine L_as (L_nil (thenQ_normal (W_seq (W_region (L_run (.pointer (some ⟨b1, 1, none⟩)) (by kernel_rfl) (by kernel_rfl) (L_load b1 1 (.int .i32 hi) (by kernel_rfl) (by kernel_rfl) (cell_obj o_x2 rfl) (L_conv (k := .i32) hi hi (by kernel_rfl) Try.underlying3 (by kernel_rfl) (wrap_i64 _ (by omega) (by omega)) (L_mv (L_conv (k := .i32) x x (by kernel_rfl) Try.underlying3 (by kernel_rfl) (wrap_i64 _ (by omega) (by omega)) (L_arith hi x (hi - x) rfl (by kernel_rfl) (by kernel_rfl) (wrap_i64 _ (by simp only [arithZ]; omega) (by simp only [arithZ]; omega)) (L_as (L_nil (thenQ_normal (W_ret ?_))))))))))))))
  refine end_ret [.tmp 4] [(.int .i64 (hi - x))] rfl rfl ⟨by kernel_rfl, trivial⟩ ?_
  have e0 : ((hi - x) : Int) = (hi - x) := by rfl
  exact ⟨congrArg (Value.int .i64) e0, hb⟩

set_option maxHeartbeats 4000000 in
set_option maxRecDepth 100000 in
theorem c_bsf_S (v_xs : Value) (xs : List (Int × Int × List UInt8)) (x : Int) (w : World) (p_xs : Rd w encSpanS v_xs xs) (hl : xs.length ≤ 1073741824) (hr : Rise xs) (hx : -2147483648 ≤ x ∧ x ≤ 2147483647) :
    Calls Try.prog 139 #[v_xs, (.int .i32 x), (.func (.func 140) #[] #[])] w (Ret fun v w' => v = (.tuple #[(.int .i64 (((fromF xs x) : Nat) : Int)), (.bool (foundB xs x))]) ∧ Below w.heap.size w w') := by
  refine enter (args := [v_xs, (.int .i32 x), (.func (.func 140) #[] #[])]) Try.func139 rfl (by kernel_rfl : _ = 49) (by kernel_rfl) ?_
  have hb := Below.refl w.heap.size w
  have hs : w.heap.size ≤ w.heap.size := Nat.le_refl _
  have in_p_xs := p_xs
  refine W_seq (W_region (L_as (L_as (L_nil (thenQ_normal (W_seq (W_region (L_mv (L_len 148 152 (xs).length v_xs rfl Try.underlying148 (p_xs).len (by kernel_rfl) (L_as (L_nil (thenQ_normal (W_seq (W_region (L_mv (L_as (L_as (L_nil (thenQ_normal (W_seq (W_block ?_)))))))))))))))))))))
  refine W_loop (fun m s0 w0 => ∃ (i : Nat) (j : Nat), (m = j - i) ∧ (s0.ds = []) ∧ (s0.f 0 = v_xs) ∧ (s0.f 1 = (.int .i32 x)) ∧ (s0.f 2 = (.func (.func 140) #[] #[])) ∧ (s0.f 6 = (.int .i64 0)) ∧ (s0.f 7 = (.bool false)) ∧ (s0.f 8 = (.int .i64 (((xs).length : Nat) : Int))) ∧ (s0.f 9 = (.int .i64 ((i : Nat) : Int))) ∧ (s0.f 10 = (.int .i64 ((j : Nat) : Int))) ∧ (Rd w0 encSpanS v_xs xs) ∧ (Below w.heap.size w w0) ∧ (w.heap.size ≤ w0.heap.size) ∧ (i ≤ j) ∧ (j ≤ xs.length) ∧ (lowI xs x i) ∧ (highI xs x j)) _ ⟨0, ((xs).length), rfl, by kernel_rfl, by kernel_rfl, by kernel_rfl, by kernel_rfl, by kernel_rfl, by kernel_rfl, by kernel_rfl, by kernel_rfl, by kernel_rfl, p_xs, hb, hs, by omega, by omega, low_zero xs x, high_end xs x⟩ ?_
  rintro m1 s2 w3 ⟨i, j, hm, hds, f_0, f_1, f_2, f_6, f_7, f_8, f_9, f_10, p_xs, hb, hs, i1, i2, i3, i4⟩
  refine W_set 0 _ f_0 (W_set 1 _ f_1 (W_set 2 _ f_2 (W_set 6 _ f_6 (W_set 7 _ f_7 (W_set 8 _ f_8 (W_set 9 _ f_9 (W_set 10 _ f_10 ?_)))))))
  clear f_0 f_1 f_2 f_6 f_7 f_8 f_9 f_10
  refine W_seq (W_seq (W_region (L_mv (L_mv (L_cmp .i64 ((i : Nat) : Int) ((j : Nat) : Int) (i < j) rfl (cmpN_lt i j) (by kernel_rfl) (by kernel_rfl) ?_ ?_)))))
  · intro h4
    replace h4 : i < j := by omega
    refine L_nil (thenQ_normal (W_true (by kernel_rfl) (W_skip (thenQ_normal (W_block (W_seq (W_region (L_mv (L_mv (L_addN i j (by omega) (by kernel_rfl) (by kernel_rfl) (L_conv (k := .i64) (((i + j) : Nat) : Int) (((i + j) : Nat) : Int) (by kernel_rfl) Try.underlying141 (by kernel_rfl) (wrap_u64 _ (by omega) (by omega)) (L_shr (k := .u64) (yk := .u64) (((i + j) : Nat) : Int) 1 2 rfl (by kernel_rfl) (by kernel_rfl) (by kernel_rfl) (L_conv (k := .u64) ((((i + j) / 2) : Nat) : Int) ((((i + j) / 2) : Nat) : Int) (by kernel_rfl) Try.underlying3 (by kernel_rfl) (wrap_i64 _ (by omega) (by omega)) (L_as (L_nil (thenQ_normal (W_seq (W_region (L_mv (L_mv (L_mv ?_)))))))))))))))))))))
    have hz := get_some xs ((i + j) / 2) (by omega); obtain ⟨x5, hx6⟩ := hz
    have hz := (p_xs).at (k := 3) (fun _ => rfl) hx6
    obtain ⟨g7, off8, hl9, hc10⟩ := hz
    have hre := hr.at hx6
    refine L_ixaddr (k := .i64) v_xs ((i + j) / 2) _ g7 off8 el148 hl9 (by omega) (by kernel_rfl) (by kernel_rfl) (L_loadA g7 (off8 + ((i + j) / 2) * 3) [(.int .i32 x5.1), (.int .i32 x5.2.1), (S x5.2.2)] (by kernel_rfl) (by kernel_rfl) (by kernel_rfl) hc10 (L_mv (L_call 140 [(Value.agg #[(.int .i32 x5.1), (.int .i32 x5.2.1), (S x5.2.2)]), (.int .i32 x)] (by kernel_rfl) (by kernel_rfl) (c_cmp_S x5.1 x5.2.1 x5.2.2 x _ (by omega) (by omega)) ?_)))
    rintro _ w11 ⟨rfl, hB12⟩
    replace hb := hb.trans (hB12.mono hs)
    replace hs := Nat.le_trans hs (hB12.size)
    replace p_xs := p_xs.below hB12
    refine L_cmp .i64 (x5.2.1 - x) 0 ((x5.2.1 - x) < 0) rfl (cmp_lt (x5.2.1 - x) 0) (by kernel_rfl) (by kernel_rfl) ?_ ?_
    · intro h14
      replace h14 : (x5.2.1 - x) < 0 := by omega
      refine L_nil (thenQ_normal (W_true (by kernel_rfl) (W_region (L_mv (L_addN ((i + j) / 2) 1 (by omega) (by kernel_rfl) (by kernel_rfl) (L_as (L_nil (blkQ_normal ?_))))))))
      refine thenQ_normal ⟨_, ?_, (((i + j) / 2) + 1), j, rfl, hds, by kernel_rfl, by kernel_rfl, by kernel_rfl, by kernel_rfl, by kernel_rfl, by kernel_rfl, by kernel_rfl, by kernel_rfl, p_xs, hb, hs, ?_, ?_, ?_, ?_⟩
      · omega
      · omega
      · omega
      · first | exact i3 | exact low_step hr (by assumption) (by omega)
      · first | exact i4 | exact high_step (by assumption) (by omega)
    · intro h15
      replace h15 : 0 ≤ (x5.2.1 - x) := by omega
      refine L_nil (thenQ_normal (W_false (by kernel_rfl) (W_region (L_mv (L_as (L_nil (blkQ_normal ?_)))))))
      refine thenQ_normal ⟨_, ?_, i, ((i + j) / 2), rfl, hds, by kernel_rfl, by kernel_rfl, by kernel_rfl, by kernel_rfl, by kernel_rfl, by kernel_rfl, by kernel_rfl, by kernel_rfl, p_xs, hb, hs, ?_, ?_, ?_, ?_⟩
      · omega
      · omega
      · omega
      · first | exact i3 | exact low_step hr (by assumption) (by omega)
      · first | exact i4 | exact high_step (by assumption) (by omega)
  · intro h16
    replace h16 : j ≤ i := by omega
    refine L_nil (thenQ_normal (W_false (by kernel_rfl) (W_exit (thenQ_exit (thenQ_exit (blkQ_exit (thenQ_normal (W_seq (W_region (L_mv (L_mv (L_mv (L_cmp .i64 ((i : Nat) : Int) (((xs).length : Nat) : Int) (i < (xs).length) rfl (cmpN_lt i ((xs).length)) (by kernel_rfl) (by kernel_rfl) ?_ ?_)))))))))))))
    · intro h17
      replace h17 : i < (xs).length := by omega
      refine L_mv (L_want (by kernel_rfl) (L_mv (L_want (by kernel_rfl) (L_mv (L_want (by kernel_rfl) (L_mv (L_want (by kernel_rfl) ?_)))))))
      have hz := get_some xs i (by omega); obtain ⟨x18, hx19⟩ := hz
      have hz := (p_xs).at (k := 3) (fun _ => rfl) hx19
      obtain ⟨g20, off21, hl22, hc23⟩ := hz
      have hre := hr.at hx19
      refine L_ixaddr (k := .i64) v_xs i _ g20 off21 el148 hl22 (by omega) (by kernel_rfl) (by kernel_rfl) (L_want (by kernel_rfl) (L_loadA g20 (off21 + i * 3) [(.int .i32 x18.1), (.int .i32 x18.2.1), (S x18.2.2)] (by kernel_rfl) (by kernel_rfl) (by kernel_rfl) hc23 (L_want (by kernel_rfl) (L_mv (L_want (by kernel_rfl) (L_call 140 [(Value.agg #[(.int .i32 x18.1), (.int .i32 x18.2.1), (S x18.2.2)]), (.int .i32 x)] (by kernel_rfl) (by kernel_rfl) (c_cmp_S x18.1 x18.2.1 x18.2.2 x _ (by omega) (by omega)) ?_))))))
      rintro _ w24 ⟨rfl, hB25⟩
      replace hb := hb.trans (hB25.mono hs)
      replace hs := Nat.le_trans hs (hB25.size)
      replace p_xs := p_xs.below hB25
      refine L_want (by kernel_rfl) (L_cmp .i64 (x18.2.1 - x) 0 ((x18.2.1 - x) = 0) rfl (cmp_eq (x18.2.1 - x) 0) (by kernel_rfl) (by kernel_rfl) ?_ ?_)
      · intro h27
        replace h27 : (x18.2.1 - x) = 0 := by omega
        refine L_pickT (by kernel_rfl) (L_as (L_as (L_nil (thenQ_normal (W_ret ?_)))))
        refine end_ret [.tmp 6, .tmp 7] [(.int .i64 ((i : Nat) : Int)), (.bool true)] rfl hds ⟨by kernel_rfl, by kernel_rfl, trivial⟩ ?_
        have hE : (i = (fromF xs x)) ∧ (true = (foundB xs x)) := ⟨(by first | exact (from_done i3 i4 i1 (by omega) i2).symm | (rw [found_some (from_done i3 i4 i1 (by omega) i2) (by assumption)]; simp; omega) | (rw [found_none (from_done i3 i4 i1 (by omega) i2) (by omega)]; done)), (by first | exact (from_done i3 i4 i1 (by omega) i2).symm | (rw [found_some (from_done i3 i4 i1 (by omega) i2) (by assumption)]; simp; omega) | (rw [found_none (from_done i3 i4 i1 (by omega) i2) (by omega)]; done))⟩
        exact ⟨tup2 (congrArg (fun x : Nat => Value.int .i64 (x : Int)) hE.1) (congrArg Value.bool hE.2), hb⟩
      · intro h28
        replace h28 : (x18.2.1 - x) ≠ 0 := by omega
        refine L_pickT (by kernel_rfl) (L_as (L_as (L_nil (thenQ_normal (W_ret ?_)))))
        refine end_ret [.tmp 6, .tmp 7] [(.int .i64 ((i : Nat) : Int)), (.bool false)] rfl hds ⟨by kernel_rfl, by kernel_rfl, trivial⟩ ?_
        have hE : (i = (fromF xs x)) ∧ (false = (foundB xs x)) := ⟨(by first | exact (from_done i3 i4 i1 (by omega) i2).symm | (rw [found_some (from_done i3 i4 i1 (by omega) i2) (by assumption)]; simp; omega) | (rw [found_none (from_done i3 i4 i1 (by omega) i2) (by omega)]; done)), (by first | exact (from_done i3 i4 i1 (by omega) i2).symm | (rw [found_some (from_done i3 i4 i1 (by omega) i2) (by assumption)]; simp; omega) | (rw [found_none (from_done i3 i4 i1 (by omega) i2) (by omega)]; done))⟩
        exact ⟨tup2 (congrArg (fun x : Nat => Value.int .i64 (x : Int)) hE.1) (congrArg Value.bool hE.2), hb⟩
    · intro h29
      replace h29 : (xs).length ≤ i := by omega
      refine L_mv (L_skip (by kernel_rfl) (L_skip (by kernel_rfl) (L_skip (by kernel_rfl) (L_skip (by kernel_rfl) (L_skip (by kernel_rfl) (L_skip (by kernel_rfl) (L_skip (by kernel_rfl) (L_skip (by kernel_rfl) (L_pickF (by kernel_rfl) (L_as (L_as (L_nil (thenQ_normal (W_ret ?_))))))))))))))
      refine end_ret [.tmp 6, .tmp 7] [(.int .i64 ((i : Nat) : Int)), (.bool false)] rfl hds ⟨by kernel_rfl, by kernel_rfl, trivial⟩ ?_
      have hE : (i = (fromF xs x)) ∧ (false = (foundB xs x)) := ⟨(by first | exact (from_done i3 i4 i1 (by omega) i2).symm | (rw [found_some (from_done i3 i4 i1 (by omega) i2) (by assumption)]; simp; omega) | (rw [found_none (from_done i3 i4 i1 (by omega) i2) (by omega)]; done)), (by first | exact (from_done i3 i4 i1 (by omega) i2).symm | (rw [found_some (from_done i3 i4 i1 (by omega) i2) (by assumption)]; simp; omega) | (rw [found_none (from_done i3 i4 i1 (by omega) i2) (by omega)]; done))⟩
      exact ⟨tup2 (congrArg (fun x : Nat => Value.int .i64 (x : Int)) hE.1) (congrArg Value.bool hE.2), hb⟩

set_option maxHeartbeats 4000000 in
set_option maxRecDepth 100000 in
theorem c_from_S (b_m : Nat) (v_xs : Value) (xs : List (Int × Int × List UInt8)) (x : Int) (w : World) (o_m : w.heap[b_m]? = some (.cells [v_xs, (.bool true)].toArray 150 (0, 0))) (p_xs : Rd w encSpanS v_xs xs) (hl : xs.length ≤ 1073741824) (hr : Rise xs) (hx : -2147483648 ≤ x ∧ x ≤ 2147483647) :
    Calls Try.prog 103 #[(.pointer (some ⟨b_m, 0, none⟩)), (.int .i32 x)] w (Ret fun v w' => v = (.int .i64 (((fromF xs x) : Nat) : Int)) ∧ Below w.heap.size w w') := by
  refine enter (args := [(.pointer (some ⟨b_m, 0, none⟩)), (.int .i32 x)]) Try.func103 rfl (by kernel_rfl : _ = 17) (by kernel_rfl) ?_
  have hb := Below.refl w.heap.size w
  have hs : w.heap.size ≤ w.heap.size := Nat.le_refl _
  have in_p_xs := p_xs
  refine W_seq (W_region (L_as (L_nil (thenQ_normal (W_seq (W_region (L_mv (L_run (.pointer (some ⟨b_m, 0, none⟩)) (by kernel_rfl) (by kernel_rfl) (L_run (.pointer (some ⟨b_m, 0, none⟩)) (by kernel_rfl) (by kernel_rfl) (L_load b_m 0 v_xs (by kernel_rfl) (by kernel_rfl) (cell_obj o_m rfl) (L_mv (L_call 139 [v_xs, (.int .i32 x), (.func (.func 140) #[] #[])] (by kernel_rfl) (by kernel_rfl) (c_bsf_S v_xs xs x _ p_xs (by omega) (by exact hr) (by omega)) ?_))))))))))))
  rintro _ w1 ⟨rfl, hB2⟩
  replace hb := hb.trans (hB2.mono hs)
  replace hs := Nat.le_trans hs (hB2.size)
  replace o_m := obj_below o_m hB2
  replace p_xs := p_xs.below hB2
  refine L_mv (L_run (.int .i64 (((fromF xs x) : Nat) : Int)) (by kernel_rfl) (by kernel_rfl) (L_run (.bool (foundB xs x)) (by kernel_rfl) (by kernel_rfl) (L_as (L_as (L_nil (thenQ_normal (W_seq (W_region (L_mv (L_as (L_nil (thenQ_normal (W_ret ?_)))))))))))))
  refine end_ret [.tmp 4] [(.int .i64 (((fromF xs x) : Nat) : Int))] rfl rfl ⟨by kernel_rfl, trivial⟩ ?_
  have e0 : (fromF xs x) = (fromF xs x) := by rfl
  exact ⟨congrArg (fun x : Nat => Value.int .i64 (x : Int)) e0, hb⟩

set_option maxHeartbeats 4000000 in
set_option maxRecDepth 100000 in
theorem c_len_S (b_m : Nat) (v_xs : Value) (xs : List (Int × Int × List UInt8)) (w : World) (o_m : w.heap[b_m]? = some (.cells [v_xs, (.bool true)].toArray 150 (0, 0))) (p_xs : Rd w encSpanS v_xs xs) :
    Calls Try.prog 60 #[(.pointer (some ⟨b_m, 0, none⟩))] w (Ret fun v w' => v = (.int .i64 ((xs.length : Nat) : Int)) ∧ Below w.heap.size w w') := by
  refine enter (args := [(.pointer (some ⟨b_m, 0, none⟩))]) Try.func60 rfl (by kernel_rfl : _ = 10) (by kernel_rfl) ?_
  have hb := Below.refl w.heap.size w
  have hs : w.heap.size ≤ w.heap.size := Nat.le_refl _
  have in_p_xs := p_xs
  refine W_seq (W_region (L_as (L_nil (thenQ_normal (W_seq (W_seq (W_region (L_mv (L_call 86 [(.pointer (some ⟨b_m, 0, none⟩))] (by kernel_rfl) (by kernel_rfl) (c_none_S b_m v_xs xs _ o_m p_xs) ?_)))))))))
  rintro _ w1 ⟨rfl, hB2⟩
  replace hb := hb.trans (hB2.mono hs)
  replace hs := Nat.le_trans hs (hB2.size)
  replace o_m := obj_below o_m hB2
  replace p_xs := p_xs.below hB2
  refine L_nil (thenQ_normal (W_false (by kernel_rfl) (W_skip (thenQ_normal (W_seq (W_region (L_mv (L_run (.pointer (some ⟨b_m, 0, none⟩)) (by kernel_rfl) (by kernel_rfl) (L_run (.pointer (some ⟨b_m, 0, none⟩)) (by kernel_rfl) (by kernel_rfl) (L_load b_m 0 v_xs (by kernel_rfl) (by kernel_rfl) (cell_obj o_m rfl) (L_len 148 152 (xs).length v_xs rfl Try.underlying148 (p_xs).len (by kernel_rfl) (L_as (L_nil (thenQ_normal (W_ret ?_)))))))))))))))
  refine end_ret [.tmp 2] [(.int .i64 (((xs).length : Nat) : Int))] rfl rfl ⟨by kernel_rfl, trivial⟩ ?_
  have e0 : (xs).length = xs.length := by rfl
  exact ⟨congrArg (fun x : Nat => Value.int .i64 (x : Int)) e0, hb⟩

set_option maxHeartbeats 4000000 in
set_option maxRecDepth 100000 in
theorem c_at_S (b_m : Nat) (v_xs : Value) (xs : List (Int × Int × List UInt8)) (x : Int) (w : World) (o_m : w.heap[b_m]? = some (.cells [v_xs, (.bool true)].toArray 150 (0, 0))) (p_xs : Rd w encSpanS v_xs xs) (hl : xs.length ≤ 1073741824) (hr : Rise xs) :
    Calls Try.prog 59 #[(.pointer (some ⟨b_m, 0, none⟩)), (.int .i32 x)] w (Ret fun v w' => v = (.tuple #[(S ((atM xs x).1)), (.bool ((atM xs x).2))]) ∧ Below w.heap.size w w') := by
  refine enter (args := [(.pointer (some ⟨b_m, 0, none⟩)), (.int .i32 x)]) Try.func59 rfl (by kernel_rfl : _ = 50) (by kernel_rfl) ?_
  have hb := Below.refl w.heap.size w
  have hs : w.heap.size ≤ w.heap.size := Nat.le_refl _
  have in_p_xs := p_xs
  refine W_seq (W_region (L_as (L_as (L_nil (thenQ_normal (W_seq (W_region (L_as (L_nil (thenQ_normal (W_seq (W_seq (W_region (L_mv (L_call 86 [(.pointer (some ⟨b_m, 0, none⟩))] (by kernel_rfl) (by kernel_rfl) (c_none_S b_m v_xs xs _ o_m p_xs) ?_)))))))))))))))
  rintro _ w1 ⟨rfl, hB2⟩
  replace hb := hb.trans (hB2.mono hs)
  replace hs := Nat.le_trans hs (hB2.size)
  replace o_m := obj_below o_m hB2
  replace p_xs := p_xs.below hB2
  refine L_mv (L_want (by kernel_rfl) (L_mv (L_want (by kernel_rfl) (L_cmp .i32 x 0 (x < 0) rfl (cmp_lt x 0) (by kernel_rfl) (by kernel_rfl) ?_ ?_))))
  · intro h4
    replace h4 : x < 0 := by omega
    refine L_pickF (by kernel_rfl) (L_mv (L_skip (by kernel_rfl) (L_skip (by kernel_rfl) (L_pickT (by kernel_rfl) (L_nil (thenQ_normal (W_true (by kernel_rfl) (W_seq (W_region (L_mv (L_as (L_as (L_nil (thenQ_normal (W_ret (thenQ_ret ?_))))))))))))))))
    refine end_ret [.tmp 4, .tmp 5] [(S ([] : List UInt8)), (.bool false)] rfl rfl ⟨by kernel_rfl, by kernel_rfl, trivial⟩ ?_
    have hE : (([] : List UInt8) = (atM xs x).1) ∧ (false = (atM xs x).2) := ⟨(by first | (rw [atM_out (by omega)]; done) | (rw [atM_in (by omega) (by omega) (by assumption) (by omega)]; done) | (rw [atM_gap (by omega) (by omega) (by assumption) (by omega)]; done) | (rw [atM_end (by omega) (by omega) (by omega)]; done)), (by first | (rw [atM_out (by omega)]; done) | (rw [atM_in (by omega) (by omega) (by assumption) (by omega)]; done) | (rw [atM_gap (by omega) (by omega) (by assumption) (by omega)]; done) | (rw [atM_end (by omega) (by omega) (by omega)]; done))⟩
    exact ⟨tup2 (congrArg S hE.1) (congrArg Value.bool hE.2), hb⟩
  · intro h5
    replace h5 : 0 ≤ x := by omega
    refine L_pickF (by kernel_rfl) (L_mv (L_want (by kernel_rfl) (L_mv (L_want (by kernel_rfl) (L_cmp .i32 x 1114111 (1114111 < x) rfl (cmp_gt x 1114111) (by kernel_rfl) (by kernel_rfl) ?_ ?_)))))
    · intro h6
      replace h6 : 1114111 < x := by omega
      refine L_pickF (by kernel_rfl) (L_nil (thenQ_normal (W_true (by kernel_rfl) (W_seq (W_region (L_mv (L_as (L_as (L_nil (thenQ_normal (W_ret (thenQ_ret ?_))))))))))))
      refine end_ret [.tmp 4, .tmp 5] [(S ([] : List UInt8)), (.bool false)] rfl rfl ⟨by kernel_rfl, by kernel_rfl, trivial⟩ ?_
      have hE : (([] : List UInt8) = (atM xs x).1) ∧ (false = (atM xs x).2) := ⟨(by first | (rw [atM_out (by omega)]; done) | (rw [atM_in (by omega) (by omega) (by assumption) (by omega)]; done) | (rw [atM_gap (by omega) (by omega) (by assumption) (by omega)]; done) | (rw [atM_end (by omega) (by omega) (by omega)]; done)), (by first | (rw [atM_out (by omega)]; done) | (rw [atM_in (by omega) (by omega) (by assumption) (by omega)]; done) | (rw [atM_gap (by omega) (by omega) (by assumption) (by omega)]; done) | (rw [atM_end (by omega) (by omega) (by omega)]; done))⟩
      exact ⟨tup2 (congrArg S hE.1) (congrArg Value.bool hE.2), hb⟩
    · intro h7
      replace h7 : x ≤ 1114111 := by omega
      refine L_pickF (by kernel_rfl) (L_nil (thenQ_normal (W_false (by kernel_rfl) (W_skip (thenQ_normal (W_seq (W_seq (W_region (L_mv (L_mv (L_call 103 [(.pointer (some ⟨b_m, 0, none⟩)), (.int .i32 x)] (by kernel_rfl) (by kernel_rfl) (c_from_S b_m v_xs xs x _ o_m p_xs (by omega) (by exact hr) (by omega)) ?_)))))))))))
      rintro _ w8 ⟨rfl, hB9⟩
      replace hb := hb.trans (hB9.mono hs)
      replace hs := Nat.le_trans hs (hB9.size)
      replace o_m := obj_below o_m hB9
      replace p_xs := p_xs.below hB9
      have := fromF_le xs x
      refine L_as (L_nil (thenQ_normal (W_seq (W_region (L_mv (L_mv (L_run (.pointer (some ⟨b_m, 0, none⟩)) (by kernel_rfl) (by kernel_rfl) (L_run (.pointer (some ⟨b_m, 0, none⟩)) (by kernel_rfl) (by kernel_rfl) (L_load b_m 0 v_xs (by kernel_rfl) (by kernel_rfl) (cell_obj o_m rfl) (L_len 148 152 (xs).length v_xs rfl Try.underlying148 (p_xs).len (by kernel_rfl) (L_cmp .i64 (((fromF xs x) : Nat) : Int) (((xs).length : Nat) : Int) ((fromF xs x) < (xs).length) rfl (cmpN_lt (fromF xs x) ((xs).length)) (by kernel_rfl) (by kernel_rfl) ?_ ?_)))))))))))
      · intro h11
        replace h11 : (fromF xs x) < (xs).length := by omega
        refine L_mv (L_want (by kernel_rfl) (L_mv (L_want (by kernel_rfl) (L_run (.pointer (some ⟨b_m, 0, none⟩)) (by kernel_rfl) (by kernel_rfl) (L_want (by kernel_rfl) (L_run (.pointer (some ⟨b_m, 0, none⟩)) (by kernel_rfl) (by kernel_rfl) (L_want (by kernel_rfl) (L_load b_m 0 v_xs (by kernel_rfl) (by kernel_rfl) (cell_obj o_m rfl) (L_want (by kernel_rfl) (L_mv (L_want (by kernel_rfl) ?_)))))))))))
        have hz := get_some xs (fromF xs x) (by omega); obtain ⟨x12, hx13⟩ := hz
        have hz := (p_xs).at (k := 3) (fun _ => rfl) hx13
        obtain ⟨g14, off15, hl16, hc17⟩ := hz
        refine L_ixaddr (k := .i64) v_xs (fromF xs x) _ g14 off15 el148 hl16 (by omega) (by kernel_rfl) (by kernel_rfl) (L_want (by kernel_rfl) (L_run (.pointer (some ⟨g14, (off15 + (fromF xs x) * 3), none⟩)) (by kernel_rfl) (by kernel_rfl) (L_want (by kernel_rfl) (L_load g14 (off15 + (fromF xs x) * 3) (.int .i32 x12.1) (by kernel_rfl) (by kernel_rfl) (hc17 0 _ rfl) (L_want (by kernel_rfl) (L_mv (L_want (by kernel_rfl) (L_cmp .i32 x12.1 x (x12.1 ≤ x) rfl (cmp_le x12.1 x) (by kernel_rfl) (by kernel_rfl) ?_ ?_))))))))
        · intro h18
          replace h18 : x12.1 ≤ x := by omega
          refine L_pickT (by kernel_rfl) (L_nil (thenQ_normal (W_true (by kernel_rfl) (W_seq (W_region (L_mv (L_run (.pointer (some ⟨b_m, 0, none⟩)) (by kernel_rfl) (by kernel_rfl) (L_run (.pointer (some ⟨b_m, 0, none⟩)) (by kernel_rfl) (by kernel_rfl) (L_load b_m 0 v_xs (by kernel_rfl) (by kernel_rfl) (cell_obj o_m rfl) (L_mv ?_))))))))))
          have hz := (p_xs).at (k := 3) (fun _ => rfl) hx13
          obtain ⟨g21, off22, hl23, hc24⟩ := hz
          refine L_ixaddr (k := .i64) v_xs (fromF xs x) _ g21 off22 el148 hl23 (by omega) (by kernel_rfl) (by kernel_rfl) (L_run (.pointer (some ⟨g21, ((off22 + (fromF xs x) * 3) + 2), none⟩)) (by kernel_rfl) (by kernel_rfl) (L_load g21 ((off22 + (fromF xs x) * 3) + 2) (S x12.2.2) (by kernel_rfl) (by kernel_rfl) (hc24 2 _ rfl) (L_as (L_as (L_nil (thenQ_normal (W_ret (thenQ_ret ?_))))))))
          refine end_ret [.tmp 4, .tmp 5] [(S x12.2.2), (.bool true)] rfl rfl ⟨by kernel_rfl, by kernel_rfl, trivial⟩ ?_
          have hE : (x12.2.2 = (atM xs x).1) ∧ (true = (atM xs x).2) := ⟨(by first | (rw [atM_out (by omega)]; done) | (rw [atM_in (by omega) (by omega) (by assumption) (by omega)]; done) | (rw [atM_gap (by omega) (by omega) (by assumption) (by omega)]; done) | (rw [atM_end (by omega) (by omega) (by omega)]; done)), (by first | (rw [atM_out (by omega)]; done) | (rw [atM_in (by omega) (by omega) (by assumption) (by omega)]; done) | (rw [atM_gap (by omega) (by omega) (by assumption) (by omega)]; done) | (rw [atM_end (by omega) (by omega) (by omega)]; done))⟩
          exact ⟨tup2 (congrArg S hE.1) (congrArg Value.bool hE.2), hb⟩
        · intro h25
          replace h25 : x < x12.1 := by omega
          refine L_pickT (by kernel_rfl) (L_nil (thenQ_normal (W_false (by kernel_rfl) (W_skip (thenQ_normal (W_seq (W_region (L_mv (L_as (L_as (L_nil (thenQ_normal (W_ret ?_)))))))))))))
          refine end_ret [.tmp 4, .tmp 5] [(S ([] : List UInt8)), (.bool false)] rfl rfl ⟨by kernel_rfl, by kernel_rfl, trivial⟩ ?_
          have hE : (([] : List UInt8) = (atM xs x).1) ∧ (false = (atM xs x).2) := ⟨(by first | (rw [atM_out (by omega)]; done) | (rw [atM_in (by omega) (by omega) (by assumption) (by omega)]; done) | (rw [atM_gap (by omega) (by omega) (by assumption) (by omega)]; done) | (rw [atM_end (by omega) (by omega) (by omega)]; done)), (by first | (rw [atM_out (by omega)]; done) | (rw [atM_in (by omega) (by omega) (by assumption) (by omega)]; done) | (rw [atM_gap (by omega) (by omega) (by assumption) (by omega)]; done) | (rw [atM_end (by omega) (by omega) (by omega)]; done))⟩
          exact ⟨tup2 (congrArg S hE.1) (congrArg Value.bool hE.2), hb⟩
      · intro h26
        replace h26 : (xs).length ≤ (fromF xs x) := by omega
        refine L_mv (L_skip (by kernel_rfl) (L_skip (by kernel_rfl) (L_skip (by kernel_rfl) (L_skip (by kernel_rfl) (L_skip (by kernel_rfl) (L_skip (by kernel_rfl) (L_skip (by kernel_rfl) (L_skip (by kernel_rfl) (L_skip (by kernel_rfl) (L_skip (by kernel_rfl) (L_pickF (by kernel_rfl) (L_nil (thenQ_normal (W_false (by kernel_rfl) (W_skip (thenQ_normal (W_seq (W_region (L_mv (L_as (L_as (L_nil (thenQ_normal (W_ret ?_))))))))))))))))))))))))
        refine end_ret [.tmp 4, .tmp 5] [(S ([] : List UInt8)), (.bool false)] rfl rfl ⟨by kernel_rfl, by kernel_rfl, trivial⟩ ?_
        have hE : (([] : List UInt8) = (atM xs x).1) ∧ (false = (atM xs x).2) := ⟨(by first | (rw [atM_out (by omega)]; done) | (rw [atM_in (by omega) (by omega) (by assumption) (by omega)]; done) | (rw [atM_gap (by omega) (by omega) (by assumption) (by omega)]; done) | (rw [atM_end (by omega) (by omega) (by omega)]; done)), (by first | (rw [atM_out (by omega)]; done) | (rw [atM_in (by omega) (by omega) (by assumption) (by omega)]; done) | (rw [atM_gap (by omega) (by omega) (by assumption) (by omega)]; done) | (rw [atM_end (by omega) (by omega) (by omega)]; done))⟩
        exact ⟨tup2 (congrArg S hE.1) (congrArg Value.bool hE.2), hb⟩

set_option maxHeartbeats 4000000 in
set_option maxRecDepth 100000 in
theorem c_size_S (b_m : Nat) (v_xs : Value) (xs : List (Int × Int × List UInt8)) (w : World) (o_m : w.heap[b_m]? = some (.cells [v_xs, (.bool true)].toArray 150 (0, 0))) (p_xs : Rd w encSpanS v_xs xs) (hl : xs.length ≤ 1073741824) (hr : Rise xs) :
    Calls Try.prog 49 #[(.pointer (some ⟨b_m, 0, none⟩))] w (Ret fun v w' => v = (.int .i64 (sizeM xs)) ∧ Below w.heap.size w w') := by
  refine enter (args := [(.pointer (some ⟨b_m, 0, none⟩))]) Try.func49 rfl (by kernel_rfl : _ = 28) (by kernel_rfl) ?_
  have hb := Below.refl w.heap.size w
  have hs : w.heap.size ≤ w.heap.size := Nat.le_refl _
  have in_p_xs := p_xs
  refine W_seq (W_region (L_as (L_nil (thenQ_normal (W_seq (W_seq (W_region (L_mv (L_call 86 [(.pointer (some ⟨b_m, 0, none⟩))] (by kernel_rfl) (by kernel_rfl) (c_none_S b_m v_xs xs _ o_m p_xs) ?_)))))))))
  rintro _ w1 ⟨rfl, hB2⟩
  replace hb := hb.trans (hB2.mono hs)
  replace hs := Nat.le_trans hs (hB2.size)
  replace o_m := obj_below o_m hB2
  replace p_xs := p_xs.below hB2
  refine L_nil (thenQ_normal (W_false (by kernel_rfl) (W_skip (thenQ_normal (W_seq (W_region (L_as (L_nil (thenQ_normal (W_seq (W_seq (W_region (L_mv (L_run (.pointer (some ⟨b_m, 0, none⟩)) (by kernel_rfl) (by kernel_rfl) (L_run (.pointer (some ⟨b_m, 0, none⟩)) (by kernel_rfl) (by kernel_rfl) (L_load b_m 0 v_xs (by kernel_rfl) (by kernel_rfl) (cell_obj o_m rfl) (L_len 148 152 (xs).length v_xs rfl Try.underlying148 (p_xs).len (by kernel_rfl) (L_mv (L_nil (thenQ_normal (W_block ?_)))))))))))))))))))))
  refine W_loop (fun m s0 w0 => ∃ (i : Nat) (z : Int), (m = xs.length - i) ∧ (s0.ds = []) ∧ (s0.f 2 = (.int .i64 0)) ∧ (s0.f 11 = v_xs) ∧ (s0.f 12 = (.int .i64 (((xs).length : Nat) : Int))) ∧ (s0.f 3 = (.int .i64 z)) ∧ (s0.f 13 = (.int .i64 ((i : Nat) : Int))) ∧ (Rd w0 encSpanS v_xs xs) ∧ (w0.heap[b_m]? = some (.cells [v_xs, (.bool true)].toArray 150 (0, 0))) ∧ (Below w.heap.size w w0) ∧ (w.heap.size ≤ w0.heap.size) ∧ (i ≤ xs.length) ∧ (z = sizeM (xs.take i))) _ ⟨0, 0, rfl, by kernel_rfl, by kernel_rfl, by kernel_rfl, by kernel_rfl, by kernel_rfl, by kernel_rfl, p_xs, o_m, hb, hs, by omega, rfl⟩ ?_
  rintro m4 s5 w6 ⟨i, z, hm, hds, f_2, f_11, f_12, f_3, f_13, p_xs, o_m, hb, hs, i1, i3⟩
  refine W_set 2 _ f_2 (W_set 11 _ f_11 (W_set 12 _ f_12 (W_set 3 _ f_3 (W_set 13 _ f_13 ?_))))
  clear f_2 f_11 f_12 f_3 f_13
  have hsz := sizeM_le hr i i1
  refine W_seq (W_region (L_cmp .i64 ((i : Nat) : Int) (((xs).length : Nat) : Int) (i < (xs).length) rfl (cmpN_lt i ((xs).length)) (by kernel_rfl) (by kernel_rfl) ?_ ?_))
  · intro h7
    replace h7 : i < (xs).length := by omega
    refine L_nil (thenQ_normal (W_seq (W_true (by kernel_rfl) (W_skip (thenQ_normal (W_seq (W_block (W_seq (W_region ?_)))))))))
    have hz := get_some xs i (by omega); obtain ⟨x8, hx9⟩ := hz
    have hz := (p_xs).at (k := 3) (fun _ => rfl) hx9
    obtain ⟨g10, off11, hl12, hc13⟩ := hz
    have hre := hr.at hx9
    refine L_ixaddr (k := .i64) v_xs i _ g10 off11 el148 hl12 (by omega) (by kernel_rfl) (by kernel_rfl) (L_loadA g10 (off11 + i * 3) [(.int .i32 x8.1), (.int .i32 x8.2.1), (S x8.2.2)] (by kernel_rfl) (by kernel_rfl) (by kernel_rfl) hc13 (L_new (fun b => .pointer (some ⟨b, 0, none⟩)) (.cells [(.int .i32 0), (.int .i32 0), (S ([] : List UInt8))].toArray 152 (0, 0)) (by kernel_rfl) (by kernel_rfl) ?_))
    intro b14 w15 hN16
    have ne_m_x5 : b_m ≠ b14 := by have := obj_lt o_m; have := hN16.num; omega
    have ne_x5_m := ne_m_x5.symm
    have g_x5 : w.heap.size ≤ b14 := by rw [hN16.num]; exact hs
    replace hb := hb.trans (hN16.below.mono hs)
    replace hs := Nat.le_trans hs (hN16.below.size)
    replace o_m := obj_below o_m hN16.below
    replace p_xs := p_xs.below hN16.below
    have o_x5 := hN16.here
    refine L_storeA b14 0 [(.int .i32 x8.1), (.int .i32 x8.2.1), (S x8.2.2)] [(.int .i32 0), (.int .i32 0), (S ([] : List UInt8))] [(.int .i32 x8.1), (.int .i32 x8.2.1), (S x8.2.2)] 152 (by kernel_rfl) (by kernel_rfl) rfl (by kernel_rfl) o_x5 (by kernel_rfl) rfl ?_
    intro w17 hW18
    replace hb := hb.trans (hW18.below g_x5)
    replace hs := Nat.le_trans hs (Nat.le_of_eq hW18.size.symm)
    have n_o_m := obj_wrote o_m hW18 (obj_ne o_m o_x5 (by simp))
    have n_p_xs := in_p_xs.below hb
    replace o_m := n_o_m; clear n_o_m
    replace p_xs := n_p_xs; clear n_p_xs
    replace o_x5 := hW18.here
    refine L_nil (thenQ_normal (W_region (L_mv (L_run (.pointer (some ⟨b14, 1, none⟩)) (by kernel_rfl) (by kernel_rfl) (L_load b14 1 (.int .i32 x8.2.1) (by kernel_rfl) (by kernel_rfl) (cell_obj o_x5 rfl) (L_run (.pointer (some ⟨b14, 0, none⟩)) (by kernel_rfl) (by kernel_rfl) (L_load b14 0 (.int .i32 x8.1) (by kernel_rfl) (by kernel_rfl) (cell_obj o_x5 rfl) (L_arith x8.2.1 x8.1 (x8.2.1 - x8.1) rfl (by kernel_rfl) (by kernel_rfl) (wrap_i32 _ (by simp only [arithZ]; omega) (by simp only [arithZ]; omega)) (L_conv (k := .i32) (x8.2.1 - x8.1) (x8.2.1 - x8.1) (by kernel_rfl) Try.underlying3 (by kernel_rfl) (wrap_i64 _ (by omega) (by omega)) (L_arith (x8.2.1 - x8.1) 1 ((x8.2.1 - x8.1) + 1) rfl (by kernel_rfl) (by kernel_rfl) (wrap_i64 _ (by simp only [arithZ]; omega) (by simp only [arithZ]; omega)) (L_arith z ((x8.2.1 - x8.1) + 1) (z + ((x8.2.1 - x8.1) + 1)) rfl (by kernel_rfl) (by kernel_rfl) (wrap_i64 _ (by simp only [arithZ]; omega) (by simp only [arithZ]; omega)) (L_as (L_nil (blkQ_normal (thenQ_normal (W_region (L_addN i 1 (by omega) (by kernel_rfl) (by kernel_rfl) (L_mv (L_nil ?_)))))))))))))))))))
    refine thenQ_normal ⟨_, ?_, (i + 1), (z + ((x8.2.1 - x8.1) + 1)), rfl, hds, by kernel_rfl, by kernel_rfl, by kernel_rfl, by kernel_rfl, by kernel_rfl, p_xs, o_m, hb, hs, ?_, ?_⟩
    · omega
    · omega
    · rw [i3, ← sizeM_take (by assumption)] <;> omega
  · intro h19
    replace h19 : (xs).length ≤ i := by omega
    refine L_nil (thenQ_normal (W_seq (W_false (by kernel_rfl) (W_exit (thenQ_exit (thenQ_exit (blkQ_exit (thenQ_normal (W_seq (W_region (L_mv (L_as (L_nil (thenQ_normal (W_ret ?_)))))))))))))))
    refine end_ret [.tmp 2] [(.int .i64 z)] rfl hds ⟨by kernel_rfl, trivial⟩ ?_
    have e0 : (z : Int) = (sizeM xs) := by rw [i3, List.take_of_length_le (by omega)]
    exact ⟨congrArg (Value.int .i64) e0, hb⟩

set_option maxHeartbeats 4000000 in
set_option maxRecDepth 100000 in
theorem c_meets_S (b_m : Nat) (v_xs : Value) (xs : List (Int × Int × List UInt8)) (lo : Int) (hi : Int) (w : World) (o_m : w.heap[b_m]? = some (.cells [v_xs, (.bool true)].toArray 150 (0, 0))) (p_xs : Rd w encSpanS v_xs xs) (hl : xs.length ≤ 1073741824) (hr : Rise xs) (hlo : -2147483648 ≤ lo ∧ lo ≤ 2147483647) :
    Calls Try.prog 101 #[(.pointer (some ⟨b_m, 0, none⟩)), (Value.agg #[(.int .i32 lo), (.int .i32 hi)])] w (Ret fun v w' => v = (.tuple #[(Value.agg #[(.int .i32 ((meetsM xs lo hi).1)), (.int .i32 ((meetsM xs lo hi).2.1))]), (S ((meetsM xs lo hi).2.2.1)), (.bool ((meetsM xs lo hi).2.2.2))]) ∧ Below w.heap.size w w') := by
  refine enter (args := [(.pointer (some ⟨b_m, 0, none⟩)), (Value.agg #[(.int .i32 lo), (.int .i32 hi)])]) Try.func101 rfl (by kernel_rfl : _ = 69) (by kernel_rfl) ?_
  have hb := Below.refl w.heap.size w
  have hs : w.heap.size ≤ w.heap.size := Nat.le_refl _
  have in_p_xs := p_xs
  refine W_seq (W_region (L_new (fun b => .pointer (some ⟨b, 0, none⟩)) (.cells [(.int .i32 lo), (.int .i32 hi)].toArray 29 (0, 0)) (by kernel_rfl) (by kernel_rfl) ?_))
  intro b1 w2 hN3
  have ne_m_x3 : b_m ≠ b1 := by have := obj_lt o_m; have := hN3.num; omega
  have ne_x3_m := ne_m_x3.symm
  have g_x3 : w.heap.size ≤ b1 := by rw [hN3.num]; exact hs
  replace hb := hb.trans (hN3.below.mono hs)
  replace hs := Nat.le_trans hs (hN3.below.size)
  replace o_m := obj_below o_m hN3.below
  replace p_xs := p_xs.below hN3.below
  have o_x3 := hN3.here
  refine L_new (fun b => .pointer (some ⟨b, 0, none⟩)) (.cells [(.int .i32 0), (.int .i32 0)].toArray 29 (0, 0)) (by kernel_rfl) (by kernel_rfl) ?_
  intro b4 w5 hN6
  have ne_m_x4 : b_m ≠ b4 := by have := obj_lt o_m; have := hN6.num; omega
  have ne_x4_m := ne_m_x4.symm
  have ne_x3_x4 : b1 ≠ b4 := by have := obj_lt o_x3; have := hN6.num; omega
  have ne_x4_x3 := ne_x3_x4.symm
  have g_x4 : w.heap.size ≤ b4 := by rw [hN6.num]; exact hs
  replace hb := hb.trans (hN6.below.mono hs)
  replace hs := Nat.le_trans hs (hN6.below.size)
  replace o_m := obj_below o_m hN6.below
  replace o_x3 := obj_below o_x3 hN6.below
  replace p_xs := p_xs.below hN6.below
  have o_x4 := hN6.here
  refine L_as (L_as (L_nil (thenQ_normal (W_seq (W_region (L_as (L_nil (thenQ_normal (W_seq (W_seq (W_region (L_mv (L_call 86 [(.pointer (some ⟨b_m, 0, none⟩))] (by kernel_rfl) (by kernel_rfl) (c_none_S b_m v_xs xs _ o_m p_xs) ?_)))))))))))))
  rintro _ w7 ⟨rfl, hB8⟩
  replace hb := hb.trans (hB8.mono hs)
  replace hs := Nat.le_trans hs (hB8.size)
  replace o_m := obj_below o_m hB8
  replace o_x3 := obj_below o_x3 hB8
  replace o_x4 := obj_below o_x4 hB8
  replace p_xs := p_xs.below hB8
  refine L_mv (L_want (by kernel_rfl) (L_loadA b1 0 [(.int .i32 lo), (.int .i32 hi)] (by kernel_rfl) (by kernel_rfl) (by kernel_rfl) (cells_at o_x3 0 (by kernel_rfl)) (L_want (by kernel_rfl) (L_call 35 [(Value.agg #[(.int .i32 lo), (.int .i32 hi)])] (by kernel_rfl) (by kernel_rfl) (c_points_May lo hi _ ) ?_))))
  rintro _ w10 ⟨rfl, hB11⟩
  replace hb := hb.trans (hB11.mono hs)
  replace hs := Nat.le_trans hs (hB11.size)
  replace o_m := obj_below o_m hB11
  replace o_x3 := obj_below o_x3 hB11
  replace o_x4 := obj_below o_x4 hB11
  replace p_xs := p_xs.below hB11
  refine put_split (mayF lo hi) ?_ ?_
  · intro h13
    refine L_want (by kernel_rfl) (L_not true (by kernel_rfl) (L_pickF (by kernel_rfl) (L_nil (thenQ_normal (W_false (by kernel_rfl) (W_skip (thenQ_normal (W_seq (W_seq (W_region (L_mv (L_run (.pointer (some ⟨b1, 0, none⟩)) (by kernel_rfl) (by kernel_rfl) (L_load b1 0 (.int .i32 lo) (by kernel_rfl) (by kernel_rfl) (cell_obj o_x3 rfl) (L_call 103 [(.pointer (some ⟨b_m, 0, none⟩)), (.int .i32 lo)] (by kernel_rfl) (by kernel_rfl) (c_from_S b_m v_xs xs lo _ o_m p_xs (by omega) (by exact hr) (by omega)) ?_))))))))))))))
    rintro _ w14 ⟨rfl, hB15⟩
    replace hb := hb.trans (hB15.mono hs)
    replace hs := Nat.le_trans hs (hB15.size)
    replace o_m := obj_below o_m hB15
    replace o_x3 := obj_below o_x3 hB15
    replace o_x4 := obj_below o_x4 hB15
    replace p_xs := p_xs.below hB15
    have := fromF_le xs lo
    refine L_as (L_nil (thenQ_normal (W_seq (W_quiet (by kernel_rfl) (by kernel_rfl) (Lq_mv (Lq_mv (Lq_run (.pointer (some ⟨b_m, 0, none⟩)) (fun _ => by kernel_rfl) (Lq_run (.pointer (some ⟨b_m, 0, none⟩)) (fun _ => by kernel_rfl) (Lq_load b_m 0 v_xs (by kernel_rfl) (fun _ => by kernel_rfl) (cell_obj o_m rfl) (Lq_len 148 152 (xs).length v_xs rfl Try.underlying148 (p_xs).len (by kernel_rfl) (Lq_cmp .i64 (((fromF xs lo) : Nat) : Int) (((xs).length : Nat) : Int) ((fromF xs lo) < (xs).length) rfl (cmpN_lt (fromF xs lo) ((xs).length)) (by kernel_rfl) (by kernel_rfl) ?_ ?_)))))))))))
    · intro h17
      replace h17 : (fromF xs lo) < (xs).length := by omega
      refine Lq_mv (Lq_want (by kernel_rfl) (Lq_mv (Lq_want (by kernel_rfl) (Lq_run (.pointer (some ⟨b_m, 0, none⟩)) (fun _ => by kernel_rfl) (Lq_want (by kernel_rfl) (Lq_run (.pointer (some ⟨b_m, 0, none⟩)) (fun _ => by kernel_rfl) (Lq_want (by kernel_rfl) (Lq_load b_m 0 v_xs (by kernel_rfl) (fun _ => by kernel_rfl) (cell_obj o_m rfl) (Lq_want (by kernel_rfl) (Lq_mv (Lq_want (by kernel_rfl) ?_)))))))))))
      have hz := get_some xs (fromF xs lo) (by omega); obtain ⟨x18, hx19⟩ := hz
      have hz := (p_xs).at (k := 3) (fun _ => rfl) hx19
      obtain ⟨g20, off21, hl22, hc23⟩ := hz
      refine Lq_ixaddr (k := .i64) v_xs (fromF xs lo) _ g20 off21 el148 hl22 (by omega) (by kernel_rfl) (by kernel_rfl) (Lq_want (by kernel_rfl) (Lq_run (.pointer (some ⟨g20, (off21 + (fromF xs lo) * 3), none⟩)) (fun _ => by kernel_rfl) (Lq_want (by kernel_rfl) (Lq_load g20 (off21 + (fromF xs lo) * 3) (.int .i32 x18.1) (by kernel_rfl) (fun _ => by kernel_rfl) (hc23 0 _ rfl) (Lq_want (by kernel_rfl) (Lq_run (.pointer (some ⟨b1, 1, none⟩)) (fun _ => by kernel_rfl) (Lq_want (by kernel_rfl) (Lq_load b1 1 (.int .i32 hi) (by kernel_rfl) (fun _ => by kernel_rfl) (cell_obj o_x3 rfl) (Lq_want (by kernel_rfl) (Lq_cmp .i32 x18.1 hi (x18.1 ≤ hi) rfl (cmp_le x18.1 hi) (by kernel_rfl) (by kernel_rfl) ?_ ?_))))))))))
      · intro h24
        replace h24 : x18.1 ≤ hi := by omega
        refine Lq_pickT (by kernel_rfl) (Lq_nil ?_)
        intro w25 hB26
        replace hb := hb.trans (hB26.mono hs)
        replace hs := Nat.le_trans hs (hB26.size)
        replace o_m := obj_below o_m hB26
        replace o_x3 := obj_below o_x3 hB26
        replace o_x4 := obj_below o_x4 hB26
        replace p_xs := p_xs.below hB26
        refine thenQ_normal (W_true (by kernel_rfl) (W_seq (W_held 28 (by kernel_rfl) (by kernel_rfl) ?_)))
        intro w27 hB28
        replace hb := hb.trans (hB28.mono hs)
        replace hs := Nat.le_trans hs (hB28.size)
        replace o_m := obj_below o_m hB28
        replace o_x3 := obj_below o_x3 hB28
        replace o_x4 := obj_below o_x4 hB28
        replace p_xs := p_xs.below hB28
        refine ⟨fun w2 => Ch (fun k => k = b4) w27 w2, ?_⟩
        have hS29 : Ch (fun k => k = b4) w27 w27 := Ch.refl _ _
        refine H_take 0 (.pointer (some ⟨b_m, 0, none⟩)) rfl (by kernel_rfl) (by kernel_rfl) (by kernel_rfl) (by repeat first | exact noPanic_end | exact noPanic_endM | apply noPanic_then | apply noPanic_blk) hS29 (by kernel_rfl) (fun _ _ => by kernel_rfl) ?_
        refine H_take 1 (.pointer (some ⟨b_m, 0, none⟩)) rfl (by kernel_rfl) (by kernel_rfl) (by kernel_rfl) (by repeat first | exact noPanic_end | exact noPanic_endM | apply noPanic_then | apply noPanic_blk) hS29 (by kernel_rfl) (fun _ _ => by kernel_rfl) ?_
        refine H_take 2 (.pointer (some ⟨b_m, 0, none⟩)) rfl (by kernel_rfl) (by kernel_rfl) (by kernel_rfl) (by repeat first | exact noPanic_end | exact noPanic_endM | apply noPanic_then | apply noPanic_blk) hS29 (by kernel_rfl) (fun _ _ => by kernel_rfl) ?_
        refine H_take 3 v_xs rfl (by kernel_rfl) (by kernel_rfl) (by kernel_rfl) (by repeat first | exact noPanic_end | exact noPanic_endM | apply noPanic_then | apply noPanic_blk) hS29 (by kernel_rfl) (R_load b_m 0 v_xs (by kernel_rfl) (fun _ => by kernel_rfl) (fun w2 h2 => cell_obj (obj_ch o_m h2 (obj_ne o_m o_x4 (by simp))) rfl)) ?_
        refine H_take 4 (.int .i64 (((fromF xs lo) : Nat) : Int)) rfl (by kernel_rfl) (by kernel_rfl) (by kernel_rfl) (by repeat first | exact noPanic_end | exact noPanic_endM | apply noPanic_then | apply noPanic_blk) hS29 (by kernel_rfl) (fun _ _ => by kernel_rfl) ?_
        have hz := (in_p_xs).at (k := 3) (fun _ => rfl) hx19
        obtain ⟨g32, off33, hl34, hc35⟩ := hz
        refine H_take 5 (.pointer (some ⟨g32, (off33 + (fromF xs lo) * 3), none⟩)) rfl (by kernel_rfl) (by kernel_rfl) (by kernel_rfl) (by repeat first | exact noPanic_end | exact noPanic_endM | apply noPanic_then | apply noPanic_blk) hS29 (by kernel_rfl) (R_ixaddr (k := .i64) v_xs (fromF xs lo) _ g32 off33 el148 hl34 (by omega) (by kernel_rfl) (by kernel_rfl)) ?_
        refine H_take 6 (.pointer (some ⟨g32, (off33 + (fromF xs lo) * 3), none⟩)) rfl (by kernel_rfl) (by kernel_rfl) (by kernel_rfl) (by repeat first | exact noPanic_end | exact noPanic_endM | apply noPanic_then | apply noPanic_blk) hS29 (by kernel_rfl) (fun _ _ => by kernel_rfl) ?_
        refine H_take 7 (.int .i32 x18.1) rfl (by kernel_rfl) (by kernel_rfl) (by kernel_rfl) (by repeat first | exact noPanic_end | exact noPanic_endM | apply noPanic_then | apply noPanic_blk) hS29 (by kernel_rfl) (R_load g32 (off33 + (fromF xs lo) * 3) (.int .i32 x18.1) (by kernel_rfl) (fun _ => by kernel_rfl) (fun w2 h2 => cell_old (hc35 0 _ rfl) hb h2 (fun k e => e ▸ g_x4))) ?_
        refine H_take 8 (.pointer (some ⟨b_m, 0, none⟩)) rfl (by kernel_rfl) (by kernel_rfl) (by kernel_rfl) (by repeat first | exact noPanic_end | exact noPanic_endM | apply noPanic_then | apply noPanic_blk) hS29 (by kernel_rfl) (fun _ _ => by kernel_rfl) ?_
        refine H_take 9 (.pointer (some ⟨b_m, 0, none⟩)) rfl (by kernel_rfl) (by kernel_rfl) (by kernel_rfl) (by repeat first | exact noPanic_end | exact noPanic_endM | apply noPanic_then | apply noPanic_blk) hS29 (by kernel_rfl) (fun _ _ => by kernel_rfl) ?_
        refine H_take 10 (.pointer (some ⟨b_m, 0, none⟩)) rfl (by kernel_rfl) (by kernel_rfl) (by kernel_rfl) (by repeat first | exact noPanic_end | exact noPanic_endM | apply noPanic_then | apply noPanic_blk) hS29 (by kernel_rfl) (fun _ _ => by kernel_rfl) ?_
        refine H_take 11 v_xs rfl (by kernel_rfl) (by kernel_rfl) (by kernel_rfl) (by repeat first | exact noPanic_end | exact noPanic_endM | apply noPanic_then | apply noPanic_blk) hS29 (by kernel_rfl) (R_load b_m 0 v_xs (by kernel_rfl) (fun _ => by kernel_rfl) (fun w2 h2 => cell_obj (obj_ch o_m h2 (obj_ne o_m o_x4 (by simp))) rfl)) ?_
        refine H_take 12 (.int .i64 (((fromF xs lo) : Nat) : Int)) rfl (by kernel_rfl) (by kernel_rfl) (by kernel_rfl) (by repeat first | exact noPanic_end | exact noPanic_endM | apply noPanic_then | apply noPanic_blk) hS29 (by kernel_rfl) (fun _ _ => by kernel_rfl) ?_
        have hz := (in_p_xs).at (k := 3) (fun _ => rfl) hx19
        obtain ⟨g38, off39, hl40, hc41⟩ := hz
        refine H_take 13 (.pointer (some ⟨g38, (off39 + (fromF xs lo) * 3), none⟩)) rfl (by kernel_rfl) (by kernel_rfl) (by kernel_rfl) (by repeat first | exact noPanic_end | exact noPanic_endM | apply noPanic_then | apply noPanic_blk) hS29 (by kernel_rfl) (R_ixaddr (k := .i64) v_xs (fromF xs lo) _ g38 off39 el148 hl40 (by omega) (by kernel_rfl) (by kernel_rfl)) ?_
        refine H_take 14 (.pointer (some ⟨g38, ((off39 + (fromF xs lo) * 3) + 1), none⟩)) rfl (by kernel_rfl) (by kernel_rfl) (by kernel_rfl) (by repeat first | exact noPanic_end | exact noPanic_endM | apply noPanic_then | apply noPanic_blk) hS29 (by kernel_rfl) (fun _ _ => by kernel_rfl) ?_
        refine H_take 15 (.int .i32 x18.2.1) rfl (by kernel_rfl) (by kernel_rfl) (by kernel_rfl) (by repeat first | exact noPanic_end | exact noPanic_endM | apply noPanic_then | apply noPanic_blk) hS29 (by kernel_rfl) (R_load g38 ((off39 + (fromF xs lo) * 3) + 1) (.int .i32 x18.2.1) (by kernel_rfl) (fun _ => by kernel_rfl) (fun w2 h2 => cell_old (hc41 1 _ rfl) hb h2 (fun k e => e ▸ g_x4))) ?_
        refine H_take 16 (Value.agg #[(.int .i32 x18.1), (.int .i32 x18.2.1)]) rfl (by kernel_rfl) (by kernel_rfl) (by kernel_rfl) (by repeat first | exact noPanic_end | exact noPanic_endM | apply noPanic_then | apply noPanic_blk) hS29 (by kernel_rfl) (fun _ _ => by kernel_rfl) ?_
        refine H_take 17 (.pointer (some ⟨b_m, 0, none⟩)) rfl (by kernel_rfl) (by kernel_rfl) (by kernel_rfl) (by repeat first | exact noPanic_end | exact noPanic_endM | apply noPanic_then | apply noPanic_blk) hS29 (by kernel_rfl) (fun _ _ => by kernel_rfl) ?_
        refine H_take 18 (.pointer (some ⟨b_m, 0, none⟩)) rfl (by kernel_rfl) (by kernel_rfl) (by kernel_rfl) (by repeat first | exact noPanic_end | exact noPanic_endM | apply noPanic_then | apply noPanic_blk) hS29 (by kernel_rfl) (fun _ _ => by kernel_rfl) ?_
        refine H_take 19 (.pointer (some ⟨b_m, 0, none⟩)) rfl (by kernel_rfl) (by kernel_rfl) (by kernel_rfl) (by repeat first | exact noPanic_end | exact noPanic_endM | apply noPanic_then | apply noPanic_blk) hS29 (by kernel_rfl) (fun _ _ => by kernel_rfl) ?_
        refine H_take 20 v_xs rfl (by kernel_rfl) (by kernel_rfl) (by kernel_rfl) (by repeat first | exact noPanic_end | exact noPanic_endM | apply noPanic_then | apply noPanic_blk) hS29 (by kernel_rfl) (R_load b_m 0 v_xs (by kernel_rfl) (fun _ => by kernel_rfl) (fun w2 h2 => cell_obj (obj_ch o_m h2 (obj_ne o_m o_x4 (by simp))) rfl)) ?_
        refine H_take 21 (.int .i64 (((fromF xs lo) : Nat) : Int)) rfl (by kernel_rfl) (by kernel_rfl) (by kernel_rfl) (by repeat first | exact noPanic_end | exact noPanic_endM | apply noPanic_then | apply noPanic_blk) hS29 (by kernel_rfl) (fun _ _ => by kernel_rfl) ?_
        have hz := (in_p_xs).at (k := 3) (fun _ => rfl) hx19
        obtain ⟨g44, off45, hl46, hc47⟩ := hz
        refine H_take 22 (.pointer (some ⟨g44, (off45 + (fromF xs lo) * 3), none⟩)) rfl (by kernel_rfl) (by kernel_rfl) (by kernel_rfl) (by repeat first | exact noPanic_end | exact noPanic_endM | apply noPanic_then | apply noPanic_blk) hS29 (by kernel_rfl) (R_ixaddr (k := .i64) v_xs (fromF xs lo) _ g44 off45 el148 hl46 (by omega) (by kernel_rfl) (by kernel_rfl)) ?_
        refine H_take 23 (.pointer (some ⟨g44, ((off45 + (fromF xs lo) * 3) + 2), none⟩)) rfl (by kernel_rfl) (by kernel_rfl) (by kernel_rfl) (by repeat first | exact noPanic_end | exact noPanic_endM | apply noPanic_then | apply noPanic_blk) hS29 (by kernel_rfl) (fun _ _ => by kernel_rfl) ?_
        refine H_take 24 (S x18.2.2) rfl (by kernel_rfl) (by kernel_rfl) (by kernel_rfl) (by repeat first | exact noPanic_end | exact noPanic_endM | apply noPanic_then | apply noPanic_blk) hS29 (by kernel_rfl) (R_load g44 ((off45 + (fromF xs lo) * 3) + 2) (S x18.2.2) (by kernel_rfl) (fun _ => by kernel_rfl) (fun w2 h2 => cell_old (hc47 2 _ rfl) hb h2 (fun k e => e ▸ g_x4))) ?_
        refine H_storeA 25 b4 0 [(.int .i32 x18.1), (.int .i32 x18.2.1)] [(.int .i32 0), (.int .i32 0)] [(.int .i32 x18.1), (.int .i32 x18.2.1)] 29 rfl (by kernel_rfl) (by kernel_rfl) (by kernel_rfl) rfl (by kernel_rfl) o_x4 (by kernel_rfl) rfl ?_
        intro w48 hW49
        refine ⟨hS29.trans (Ch.of_wrote hW49), ?_⟩
        replace hb := hb.trans (hW49.below g_x4)
        replace hs := Nat.le_trans hs (Nat.le_of_eq hW49.size.symm)
        have n_o_m := obj_wrote o_m hW49 (obj_ne o_m o_x4 (by simp))
        have n_o_x3 := obj_wrote o_x3 hW49 ne_x3_x4
        have n_p_xs := in_p_xs.below hb
        replace o_m := n_o_m; clear n_o_m
        replace o_x3 := n_o_x3; clear n_o_x3
        replace p_xs := n_p_xs; clear n_p_xs
        replace o_x4 := hW49.here
        have hS50 := hS29.trans (Ch.of_wrote hW49)
        refine H_take 26 (S x18.2.2) rfl (by kernel_rfl) (by kernel_rfl) (by kernel_rfl) (by repeat first | exact noPanic_end | exact noPanic_endM | apply noPanic_then | apply noPanic_blk) hS50 (by kernel_rfl) (fun _ _ => by kernel_rfl) ?_
        refine H_take 27 (.bool true) rfl (by kernel_rfl) (by kernel_rfl) (by kernel_rfl) (by repeat first | exact noPanic_end | exact noPanic_endM | apply noPanic_then | apply noPanic_blk) hS50 (by kernel_rfl) (fun _ _ => by kernel_rfl) ?_
        refine H_done (by kernel_rfl) ?_
        refine thenQ_normal (W_ret (thenQ_ret ?_))
        refine end_ret [.cell 4 29, .tmp 5, .tmp 6] [(Value.agg #[(.int .i32 x18.1), (.int .i32 x18.2.1)]), (S x18.2.2), (.bool true)] rfl rfl ⟨⟨⟨b4, 0, none⟩, by kernel_rfl, load_agg [(.int .i32 x18.1), (.int .i32 x18.2.1)] (by kernel_rfl) (by kernel_rfl) (cells_obj o_x4)⟩, by kernel_rfl, by kernel_rfl, trivial⟩ ?_
        have hE : ((Value.agg #[(.int .i32 x18.1), (.int .i32 x18.2.1)]) = (Value.agg #[(.int .i32 ((meetsM xs lo hi).1)), (.int .i32 ((meetsM xs lo hi).2.1))])) ∧ (x18.2.2 = (meetsM xs lo hi).2.2.1) ∧ (true = (meetsM xs lo hi).2.2.2) := ⟨(by first | (rw [meetsM_may (by assumption)]; done) | (rw [meetsM_yes (by assumption) (by assumption) (by omega)]; done) | (rw [meetsM_no (by assumption) (by assumption) (by omega)]; done) | (rw [meetsM_end (by assumption) (by omega)]; done)), (by first | (rw [meetsM_may (by assumption)]; done) | (rw [meetsM_yes (by assumption) (by assumption) (by omega)]; done) | (rw [meetsM_no (by assumption) (by assumption) (by omega)]; done) | (rw [meetsM_end (by assumption) (by omega)]; done)), (by first | (rw [meetsM_may (by assumption)]; done) | (rw [meetsM_yes (by assumption) (by assumption) (by omega)]; done) | (rw [meetsM_no (by assumption) (by assumption) (by omega)]; done) | (rw [meetsM_end (by assumption) (by omega)]; done))⟩
        exact ⟨tup3 (hE.1) (congrArg S hE.2.1) (congrArg Value.bool hE.2.2), hb⟩
      · intro h51
        replace h51 : hi < x18.1 := by omega
        refine Lq_pickT (by kernel_rfl) (Lq_nil ?_)
        intro w52 hB53
        replace hb := hb.trans (hB53.mono hs)
        replace hs := Nat.le_trans hs (hB53.size)
        replace o_m := obj_below o_m hB53
        replace o_x3 := obj_below o_x3 hB53
        replace o_x4 := obj_below o_x4 hB53
        replace p_xs := p_xs.below hB53
        refine thenQ_normal (W_false (by kernel_rfl) (W_skip (thenQ_normal (W_seq (W_region (L_run (Value.agg #[(.int .i32 0), (.int .i32 0)]) (by kernel_rfl) (by kernel_rfl) (L_mv (L_storeA b4 0 [(.int .i32 0), (.int .i32 0)] [(.int .i32 0), (.int .i32 0)] [(.int .i32 0), (.int .i32 0)] 29 (by kernel_rfl) (by kernel_rfl) rfl (by kernel_rfl) o_x4 (by kernel_rfl) rfl ?_))))))))
        intro w54 hW55
        replace hb := hb.trans (hW55.below g_x4)
        replace hs := Nat.le_trans hs (Nat.le_of_eq hW55.size.symm)
        have n_o_m := obj_wrote o_m hW55 (obj_ne o_m o_x4 (by simp))
        have n_o_x3 := obj_wrote o_x3 hW55 ne_x3_x4
        have n_p_xs := in_p_xs.below hb
        replace o_m := n_o_m; clear n_o_m
        replace o_x3 := n_o_x3; clear n_o_x3
        replace p_xs := n_p_xs; clear n_p_xs
        replace o_x4 := hW55.here
        refine L_as (L_as (L_nil (thenQ_normal (W_ret ?_))))
        refine end_ret [.cell 4 29, .tmp 5, .tmp 6] [(Value.agg #[(.int .i32 0), (.int .i32 0)]), (S ([] : List UInt8)), (.bool false)] rfl rfl ⟨⟨⟨b4, 0, none⟩, by kernel_rfl, load_agg [(.int .i32 0), (.int .i32 0)] (by kernel_rfl) (by kernel_rfl) (cells_obj o_x4)⟩, by kernel_rfl, by kernel_rfl, trivial⟩ ?_
        have hE : ((Value.agg #[(.int .i32 0), (.int .i32 0)]) = (Value.agg #[(.int .i32 ((meetsM xs lo hi).1)), (.int .i32 ((meetsM xs lo hi).2.1))])) ∧ (([] : List UInt8) = (meetsM xs lo hi).2.2.1) ∧ (false = (meetsM xs lo hi).2.2.2) := ⟨(by first | (rw [meetsM_may (by assumption)]; done) | (rw [meetsM_yes (by assumption) (by assumption) (by omega)]; done) | (rw [meetsM_no (by assumption) (by assumption) (by omega)]; done) | (rw [meetsM_end (by assumption) (by omega)]; done)), (by first | (rw [meetsM_may (by assumption)]; done) | (rw [meetsM_yes (by assumption) (by assumption) (by omega)]; done) | (rw [meetsM_no (by assumption) (by assumption) (by omega)]; done) | (rw [meetsM_end (by assumption) (by omega)]; done)), (by first | (rw [meetsM_may (by assumption)]; done) | (rw [meetsM_yes (by assumption) (by assumption) (by omega)]; done) | (rw [meetsM_no (by assumption) (by assumption) (by omega)]; done) | (rw [meetsM_end (by assumption) (by omega)]; done))⟩
        exact ⟨tup3 (hE.1) (congrArg S hE.2.1) (congrArg Value.bool hE.2.2), hb⟩
    · intro h56
      replace h56 : (xs).length ≤ (fromF xs lo) := by omega
      refine Lq_mv (Lq_skip (by kernel_rfl) (Lq_skip (by kernel_rfl) (Lq_skip (by kernel_rfl) (Lq_skip (by kernel_rfl) (Lq_skip (by kernel_rfl) (Lq_skip (by kernel_rfl) (Lq_skip (by kernel_rfl) (Lq_skip (by kernel_rfl) (Lq_skip (by kernel_rfl) (Lq_skip (by kernel_rfl) (Lq_skip (by kernel_rfl) (Lq_pickF (by kernel_rfl) (Lq_nil ?_)))))))))))))
      intro w57 hB58
      replace hb := hb.trans (hB58.mono hs)
      replace hs := Nat.le_trans hs (hB58.size)
      replace o_m := obj_below o_m hB58
      replace o_x3 := obj_below o_x3 hB58
      replace o_x4 := obj_below o_x4 hB58
      replace p_xs := p_xs.below hB58
      refine thenQ_normal (W_false (by kernel_rfl) (W_skip (thenQ_normal (W_seq (W_region (L_run (Value.agg #[(.int .i32 0), (.int .i32 0)]) (by kernel_rfl) (by kernel_rfl) (L_mv (L_storeA b4 0 [(.int .i32 0), (.int .i32 0)] [(.int .i32 0), (.int .i32 0)] [(.int .i32 0), (.int .i32 0)] 29 (by kernel_rfl) (by kernel_rfl) rfl (by kernel_rfl) o_x4 (by kernel_rfl) rfl ?_))))))))
      intro w59 hW60
      replace hb := hb.trans (hW60.below g_x4)
      replace hs := Nat.le_trans hs (Nat.le_of_eq hW60.size.symm)
      have n_o_m := obj_wrote o_m hW60 (obj_ne o_m o_x4 (by simp))
      have n_o_x3 := obj_wrote o_x3 hW60 ne_x3_x4
      have n_p_xs := in_p_xs.below hb
      replace o_m := n_o_m; clear n_o_m
      replace o_x3 := n_o_x3; clear n_o_x3
      replace p_xs := n_p_xs; clear n_p_xs
      replace o_x4 := hW60.here
      refine L_as (L_as (L_nil (thenQ_normal (W_ret ?_))))
      refine end_ret [.cell 4 29, .tmp 5, .tmp 6] [(Value.agg #[(.int .i32 0), (.int .i32 0)]), (S ([] : List UInt8)), (.bool false)] rfl rfl ⟨⟨⟨b4, 0, none⟩, by kernel_rfl, load_agg [(.int .i32 0), (.int .i32 0)] (by kernel_rfl) (by kernel_rfl) (cells_obj o_x4)⟩, by kernel_rfl, by kernel_rfl, trivial⟩ ?_
      have hE : ((Value.agg #[(.int .i32 0), (.int .i32 0)]) = (Value.agg #[(.int .i32 ((meetsM xs lo hi).1)), (.int .i32 ((meetsM xs lo hi).2.1))])) ∧ (([] : List UInt8) = (meetsM xs lo hi).2.2.1) ∧ (false = (meetsM xs lo hi).2.2.2) := ⟨(by first | (rw [meetsM_may (by assumption)]; done) | (rw [meetsM_yes (by assumption) (by assumption) (by omega)]; done) | (rw [meetsM_no (by assumption) (by assumption) (by omega)]; done) | (rw [meetsM_end (by assumption) (by omega)]; done)), (by first | (rw [meetsM_may (by assumption)]; done) | (rw [meetsM_yes (by assumption) (by assumption) (by omega)]; done) | (rw [meetsM_no (by assumption) (by assumption) (by omega)]; done) | (rw [meetsM_end (by assumption) (by omega)]; done)), (by first | (rw [meetsM_may (by assumption)]; done) | (rw [meetsM_yes (by assumption) (by assumption) (by omega)]; done) | (rw [meetsM_no (by assumption) (by assumption) (by omega)]; done) | (rw [meetsM_end (by assumption) (by omega)]; done))⟩
      exact ⟨tup3 (hE.1) (congrArg S hE.2.1) (congrArg Value.bool hE.2.2), hb⟩
  · intro h61
    refine L_want (by kernel_rfl) (L_not false (by kernel_rfl) (L_pickF (by kernel_rfl) (L_nil (thenQ_normal (W_true (by kernel_rfl) (W_seq (W_region (L_run (Value.agg #[(.int .i32 0), (.int .i32 0)]) (by kernel_rfl) (by kernel_rfl) (L_mv (L_storeA b4 0 [(.int .i32 0), (.int .i32 0)] [(.int .i32 0), (.int .i32 0)] [(.int .i32 0), (.int .i32 0)] 29 (by kernel_rfl) (by kernel_rfl) rfl (by kernel_rfl) o_x4 (by kernel_rfl) rfl ?_))))))))))
    intro w62 hW63
    replace hb := hb.trans (hW63.below g_x4)
    replace hs := Nat.le_trans hs (Nat.le_of_eq hW63.size.symm)
    have n_o_m := obj_wrote o_m hW63 (obj_ne o_m o_x4 (by simp))
    have n_o_x3 := obj_wrote o_x3 hW63 ne_x3_x4
    have n_p_xs := in_p_xs.below hb
    replace o_m := n_o_m; clear n_o_m
    replace o_x3 := n_o_x3; clear n_o_x3
    replace p_xs := n_p_xs; clear n_p_xs
    replace o_x4 := hW63.here
    refine L_as (L_as (L_nil (thenQ_normal (W_ret (thenQ_ret ?_)))))
    refine end_ret [.cell 4 29, .tmp 5, .tmp 6] [(Value.agg #[(.int .i32 0), (.int .i32 0)]), (S ([] : List UInt8)), (.bool false)] rfl rfl ⟨⟨⟨b4, 0, none⟩, by kernel_rfl, load_agg [(.int .i32 0), (.int .i32 0)] (by kernel_rfl) (by kernel_rfl) (cells_obj o_x4)⟩, by kernel_rfl, by kernel_rfl, trivial⟩ ?_
    have hE : ((Value.agg #[(.int .i32 0), (.int .i32 0)]) = (Value.agg #[(.int .i32 ((meetsM xs lo hi).1)), (.int .i32 ((meetsM xs lo hi).2.1))])) ∧ (([] : List UInt8) = (meetsM xs lo hi).2.2.1) ∧ (false = (meetsM xs lo hi).2.2.2) := ⟨(by first | (rw [meetsM_may (by assumption)]; done) | (rw [meetsM_yes (by assumption) (by assumption) (by omega)]; done) | (rw [meetsM_no (by assumption) (by assumption) (by omega)]; done) | (rw [meetsM_end (by assumption) (by omega)]; done)), (by first | (rw [meetsM_may (by assumption)]; done) | (rw [meetsM_yes (by assumption) (by assumption) (by omega)]; done) | (rw [meetsM_no (by assumption) (by assumption) (by omega)]; done) | (rw [meetsM_end (by assumption) (by omega)]; done)), (by first | (rw [meetsM_may (by assumption)]; done) | (rw [meetsM_yes (by assumption) (by assumption) (by omega)]; done) | (rw [meetsM_no (by assumption) (by assumption) (by omega)]; done) | (rw [meetsM_end (by assumption) (by omega)]; done))⟩
    exact ⟨tup3 (hE.1) (congrArg S hE.2.1) (congrArg Value.bool hE.2.2), hb⟩

end Go.Proofs.Ytmjkegpbbhafjaa
