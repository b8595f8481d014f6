/- Walks, written by my program walk.py out of the specification mtpr.py: each theorem says what one function returns and that it leaves memory as it was. -/
import Derived.Test.YtjdcmeoiommglaaDoorPTxt
import Derived.Test.YtjdcmeoiommglaaDoorWllines
import Derived.Test.YtjdcmeoiommglaaDoorWlscan
import Derived.Test.YtjdcmeoiommglaaDoorWlread
import Derived.Test.YtjdcmeoiommglaaDoorWlref
import Derived.Test.YtjdcmeoiommglaaDoorWmcor
import Derived.Test.YtjdcmeoiommglaaDoorWmmir
import Derived.Test.YtjdcmeoiommglaaDoorFKab
import Derived.Test.YtjdcmeoiommglaaDoorProg
import Derived.Tactics2
namespace Go.Proofs.YtjdcmeoiommglaaDoor
open Go Go.RowKit Go.FK
set_option linter.unusedVariables false
set_option linter.unusedSimpArgs false


set_option maxHeartbeats 4000000 in
set_option maxRecDepth 100000 in
theorem c_mirrors_finder_1 (r : Int) (b_to m_to : Nat) (to : List (Int × Int)) (w : World) (o_to : w.heap[b_to]? = some (.cells [(.map (some m_to))].toArray 84 (0, 0))) (o_m_to : w.heap[m_to]? = some (mapObj .i32 .i32 to)) :
    Calls Tryd.prog 54 #[(.int .i32 r), (.pointer (some ⟨b_to, 0, none⟩))] w (Ret fun v w' => v = (.tuple #[(.int .i32 ((ofM to r).1)), (.bool ((ofM to r).2))]) ∧ Below w.heap.size w w') := by
  refine enter (args := [(.int .i32 r), (.pointer (some ⟨b_to, 0, none⟩))]) Tryd.func54 rfl (by kernel_rfl : _ = 17) (by kernel_rfl) ?_
  have hb := Below.refl w.heap.size w
  have hs : w.heap.size ≤ w.heap.size := Nat.le_refl _
  refine W_seq (W_region (L_as (L_as (L_nil (thenQ_normal (W_seq (W_region (L_load b_to 0 (.map (some m_to)) (by kernel_rfl) (by kernel_rfl) (cell_obj o_to rfl) (L_mv (L_mlook (k := .i32) (v := .i32) m_to r to Tryd.underlying84 Tryd.underlying21 (by kernel_rfl) o_m_to (by kernel_rfl) (by kernel_rfl) (L_mv (L_run (.int .i32 ((mget to r).getD 0)) (by kernel_rfl) (by kernel_rfl) (L_run (.bool ((mget to r).isSome)) (by kernel_rfl) (by kernel_rfl) (put_split ((mget to r).isSome) ?_ ?_))))))))))))))
  · intro h1
    refine L_as (L_as (L_nil (thenQ_normal (W_seq (W_seq (W_region (L_mv (L_not true (by kernel_rfl) (L_nil (thenQ_normal (W_false (by kernel_rfl) (W_skip (thenQ_normal (W_seq (W_region (L_mv (L_as (L_as (L_nil (thenQ_normal (W_ret ?_)))))))))))))))))))))
    refine end_ret [.tmp 3, .tmp 4] [(.int .i32 ((mget to r).getD 0)), (.bool true)] rfl rfl ⟨by kernel_rfl, by kernel_rfl, trivial⟩ ?_
    have hE : ((((mget to r).getD 0) : Int) = (ofM to r).1) ∧ (true = (ofM to r).2) := ⟨(by first | (rw [ofM_y (by assumption)]; done) | (rw [ofM_n (by assumption)]; done)), (by first | (rw [ofM_y (by assumption)]; done) | (rw [ofM_n (by assumption)]; done))⟩
    exact ⟨tup2 (congrArg (Value.int .i32) hE.1) (congrArg Value.bool hE.2), hb⟩
  · intro h2
    refine L_as (L_as (L_nil (thenQ_normal (W_seq (W_seq (W_region (L_mv (L_not false (by kernel_rfl) (L_nil (thenQ_normal (W_true (by kernel_rfl) (W_seq (W_region (L_mv (L_as (L_as (L_nil (thenQ_normal (W_ret (thenQ_ret ?_))))))))))))))))))))
    refine end_ret [.tmp 3, .tmp 4] [(.int .i32 r), (.bool false)] rfl rfl ⟨by kernel_rfl, by kernel_rfl, trivial⟩ ?_
    have hE : ((r : Int) = (ofM to r).1) ∧ (false = (ofM to r).2) := ⟨(by first | (rw [ofM_y (by assumption)]; done) | (rw [ofM_n (by assumption)]; done)), (by first | (rw [ofM_y (by assumption)]; done) | (rw [ofM_n (by assumption)]; done))⟩
    exact ⟨tup2 (congrArg (Value.int .i32) hE.1) (congrArg Value.bool hE.2), hb⟩

set_option maxHeartbeats 4000000 in
set_option maxRecDepth 100000 in
theorem c_mirrors_finder (v_l : Value) (l : List (Mir)) (w : World) (p_l : Rd w encMir v_l l) (hl : l.length ≤ 1073741824) :
    Calls Tryd.prog 33 #[v_l] w (Ret fun v w' => ∃ (cb0 mb0 : Nat), v = (.func (.func 54) #[] #[(.pointer (some ⟨cb0, 0, none⟩))]) ∧ w'.heap[cb0]? = some (.cells [(.map (some mb0))].toArray 84 (0, 0)) ∧ w.heap.size ≤ cb0 ∧ w'.heap[mb0]? = some (mapObj .i32 .i32 (firstM l)) ∧ w.heap.size ≤ mb0 ∧ Below w.heap.size w w') := by
  refine enter (args := [v_l]) Tryd.func33 rfl (by kernel_rfl : _ = 31) (by kernel_rfl) ?_
  have hb := Below.refl w.heap.size w
  have hs : w.heap.size ≤ w.heap.size := Nat.le_refl _
  have in_p_l := p_l
  refine W_seq (W_region (L_as (L_nil (thenQ_normal (W_seq (W_region (L_mkmap (T := 84) .i32 .i32 ?_)))))))
  intro b1 w2 hN3
  have g_m8 : w.heap.size ≤ b1 := by rw [hN3.num]; exact hs
  replace hb := hb.trans (hN3.below.mono hs)
  replace hs := Nat.le_trans hs (hN3.below.size)
  replace p_l := p_l.below hN3.below
  have o_m8 := hN3.here
  refine L_new (fun b => .pointer (some ⟨b, 0, none⟩)) (.cells [(.map none)].toArray 84 (0, 0)) (by kernel_rfl) (by kernel_rfl) ?_
  intro b4 w5 hN6
  have ne_m8_x3 : b1 ≠ b4 := by have := (obj_lt o_m8); have := hN6.num; omega
  have ne_x3_m8 := ne_m8_x3.symm
  have g_x3 : w.heap.size ≤ b4 := by rw [hN6.num]; exact hs
  replace hb := hb.trans (hN6.below.mono hs)
  replace hs := Nat.le_trans hs (hN6.below.size)
  replace o_m8 := obj_below o_m8 hN6.below
  replace p_l := p_l.below hN6.below
  have o_x3 := hN6.here
  refine L_store b4 0 (.map (some b1)) [(.map none)] [(.map (some b1))] 84 (by kernel_rfl) (by kernel_rfl) rfl (by kernel_rfl) o_x3 (by simp) rfl ?_
  intro w7 hW8
  replace hb := hb.trans (hW8.below g_x3)
  replace hs := Nat.le_trans hs (Nat.le_of_eq hW8.size.symm)
  have n_o_m8 := obj_wrote o_m8 hW8 ne_m8_x3
  have n_p_l := in_p_l.below hb
  replace o_m8 := n_o_m8; clear n_o_m8
  replace p_l := n_p_l; clear n_p_l
  replace o_x3 := hW8.here
  refine L_nil (thenQ_normal (W_seq (W_seq (W_region (L_mv (L_len 35 27 (l).length v_l rfl Tryd.underlying35 (p_l).len (by kernel_rfl) (L_mv (L_nil (thenQ_normal (W_block ?_))))))))))
  refine W_loop (fun m s0 w0 => ∃ (i : Nat) (W : List (Int × Int)), (m = l.length - i) ∧ (s0.ds = []) ∧ (s0.f 2 = .nilFunc) ∧ (s0.f 3 = (.pointer (some ⟨b4, 0, none⟩))) ∧ (s0.f 9 = v_l) ∧ (s0.f 10 = (.int .i64 (((l).length : Nat) : Int))) ∧ (s0.f 11 = (.int .i64 ((i : Nat) : Int))) ∧ (Rd w0 encMir v_l l) ∧ (w0.heap[b1]? = some (mapObj .i32 .i32 W)) ∧ (w0.heap[b4]? = some (.cells [(.map (some b1))].toArray 84 (0, 0))) ∧ (Below w.heap.size w w0) ∧ (w.heap.size ≤ w0.heap.size) ∧ (i ≤ l.length) ∧ (W = firstM (l.take i))) _ ⟨0, [], rfl, by kernel_rfl, by kernel_rfl, by kernel_rfl, by kernel_rfl, by kernel_rfl, by kernel_rfl, p_l, o_m8, o_x3, hb, hs, (Nat.zero_le _), rfl⟩ ?_
  rintro m9 s10 w11 ⟨i, W, hm, hds, f_2, f_3, f_9, f_10, f_11, p_l, o_m8, o_x3, hb, hs, i1, i2⟩
  refine W_set 2 _ f_2 (W_set 3 _ f_3 (W_set 9 _ f_9 (W_set 10 _ f_10 (W_set 11 _ f_11 ?_))))
  clear f_2 f_3 f_9 f_10 f_11
  refine W_seq (W_region (L_cmp .i64 ((i : Nat) : Int) (((l).length : Nat) : Int) (i < (l).length) rfl (cmpN_lt i ((l).length)) (by kernel_rfl) (by kernel_rfl) ?_ ?_))
  · intro h12
    replace h12 : i < (l).length := by omega
    refine L_nil (thenQ_normal (W_seq (W_true (by kernel_rfl) (W_skip (thenQ_normal (W_seq (W_block (W_seq (W_region ?_)))))))))
    have hz := get_some l i (by omega); obtain ⟨x13, hx14⟩ := hz
    have hz := (p_l).at (k := 4) (fun _ => rfl) hx14
    obtain ⟨g15, off16, hl17, hc18⟩ := hz
    refine L_ixaddr (k := .i64) v_l i _ g15 off16 el35 hl17 (by omega) (by kernel_rfl) (by kernel_rfl) (L_loadA g15 (off16 + i * 4) [(.int .i64 x13.1), (.int .i32 x13.2.1), (.int .i32 x13.2.2.1), (.bool x13.2.2.2)] (by kernel_rfl) (by kernel_rfl) (by kernel_rfl) hc18 (L_new (fun b => .pointer (some ⟨b, 0, none⟩)) (.cells [(.int .i64 0), (.int .i32 0), (.int .i32 0), (.bool false)].toArray 27 (0, 0)) (by kernel_rfl) (by kernel_rfl) ?_))
    intro b19 w20 hN21
    have ne_m8_x5 : b1 ≠ b19 := by have := (obj_lt o_m8); have := hN21.num; omega
    have ne_x5_m8 := ne_m8_x5.symm
    have ne_x3_x5 : b4 ≠ b19 := by have := (obj_lt o_x3); have := hN21.num; omega
    have ne_x5_x3 := ne_x3_x5.symm
    have g_x5 : w.heap.size ≤ b19 := by rw [hN21.num]; exact hs
    replace hb := hb.trans (hN21.below.mono hs)
    replace hs := Nat.le_trans hs (hN21.below.size)
    replace o_m8 := obj_below o_m8 hN21.below
    replace o_x3 := obj_below o_x3 hN21.below
    replace p_l := p_l.below hN21.below
    have o_x5 := hN21.here
    refine L_storeA b19 0 [(.int .i64 x13.1), (.int .i32 x13.2.1), (.int .i32 x13.2.2.1), (.bool x13.2.2.2)] [(.int .i64 0), (.int .i32 0), (.int .i32 0), (.bool false)] [(.int .i64 x13.1), (.int .i32 x13.2.1), (.int .i32 x13.2.2.1), (.bool x13.2.2.2)] 27 (by kernel_rfl) (by kernel_rfl) rfl (by kernel_rfl) o_x5 (by kernel_rfl) rfl ?_
    intro w22 hW23
    replace hb := hb.trans (hW23.below g_x5)
    replace hs := Nat.le_trans hs (Nat.le_of_eq hW23.size.symm)
    have n_o_m8 := obj_wrote o_m8 hW23 ne_m8_x5
    have n_o_x3 := obj_wrote o_x3 hW23 (obj_ne o_x3 o_x5 (by simp))
    have n_p_l := in_p_l.below hb
    replace o_m8 := n_o_m8; clear n_o_m8
    replace o_x3 := n_o_x3; clear n_o_x3
    replace p_l := n_p_l; clear n_p_l
    replace o_x5 := hW23.here
    refine L_nil (thenQ_normal (W_seq (W_region (L_load b4 0 (.map (some b1)) (by kernel_rfl) (by kernel_rfl) (cell_obj o_x3 rfl) (L_run (.pointer (some ⟨b19, 1, none⟩)) (by kernel_rfl) (by kernel_rfl) (L_load b19 1 (.int .i32 x13.2.1) (by kernel_rfl) (by kernel_rfl) (cell_obj o_x5 rfl) (L_mlook (k := .i32) (v := .i32) b1 x13.2.1 W Tryd.underlying84 Tryd.underlying21 (by kernel_rfl) o_m8 (by kernel_rfl) (by kernel_rfl) (L_mv (L_run (.int .i32 ((mget W x13.2.1).getD 0)) (by kernel_rfl) (by kernel_rfl) (L_run (.bool ((mget W x13.2.1).isSome)) (by kernel_rfl) (by kernel_rfl) (put_split ((mget W x13.2.1).isSome) ?_ ?_)))))))))))
    · intro h24
      refine L_as (L_as (L_nil (thenQ_normal (W_seq (W_region (L_mv (L_not true (by kernel_rfl) (L_nil (thenQ_normal (W_false (by kernel_rfl) (W_skip (blkQ_normal (thenQ_normal (W_region (L_addN i 1 (by omega) (by kernel_rfl) (by kernel_rfl) (L_mv (L_nil ?_)))))))))))))))))
      refine thenQ_normal ⟨_, ?_, (i + 1), W, rfl, hds, by kernel_rfl, by kernel_rfl, by kernel_rfl, by kernel_rfl, by kernel_rfl, p_l, o_m8, o_x3, hb, hs, ?_, ?_⟩
      · omega
      · omega
      · first | exact first_oldW i2 (by assumption) (by assumption) | exact first_newW i2 (by assumption) (by assumption)
    · intro h25
      refine L_as (L_as (L_nil (thenQ_normal (W_seq (W_region (L_mv (L_not false (by kernel_rfl) (L_nil (thenQ_normal (W_true (by kernel_rfl) (W_region (L_load b4 0 (.map (some b1)) (by kernel_rfl) (by kernel_rfl) (cell_obj o_x3 rfl) (L_run (.pointer (some ⟨b19, 1, none⟩)) (by kernel_rfl) (by kernel_rfl) (L_load b19 1 (.int .i32 x13.2.1) (by kernel_rfl) (by kernel_rfl) (cell_obj o_x5 rfl) (L_run (.pointer (some ⟨b19, 2, none⟩)) (by kernel_rfl) (by kernel_rfl) (L_load b19 2 (.int .i32 x13.2.2.1) (by kernel_rfl) (by kernel_rfl) (cell_obj o_x5 rfl) (L_mlay (k := .i32) (v := .i32) b1 x13.2.1 x13.2.2.1 W Tryd.underlying84 Tryd.underlying21 o_m8 (by kernel_rfl) (by kernel_rfl) (by kernel_rfl) (by first | exact none_of (by assumption) | (omega)) ?_)))))))))))))))))
      intro w26 hW27
      replace hb := hb.trans (hW27.below g_m8)
      replace hs := Nat.le_trans hs (Nat.le_of_eq hW27.size.symm)
      have n_o_x3 := obj_wrote o_x3 hW27 ne_x3_m8
      have n_o_x5 := obj_wrote o_x5 hW27 ne_x5_m8
      have n_p_l := in_p_l.below hb
      replace o_x3 := n_o_x3; clear n_o_x3
      replace o_x5 := n_o_x5; clear n_o_x5
      replace p_l := n_p_l; clear n_p_l
      replace o_m8 := hW27.here
      refine L_nil (blkQ_normal (thenQ_normal (W_region (L_addN i 1 (by omega) (by kernel_rfl) (by kernel_rfl) (L_mv (L_nil ?_))))))
      refine thenQ_normal ⟨_, ?_, (i + 1), (W ++ [(x13.2.1, x13.2.2.1)]), rfl, hds, by kernel_rfl, by kernel_rfl, by kernel_rfl, by kernel_rfl, by kernel_rfl, p_l, o_m8, o_x3, hb, hs, ?_, ?_⟩
      · omega
      · omega
      · first | exact first_oldW i2 (by assumption) (by assumption) | exact first_newW i2 (by assumption) (by assumption)
  · intro h28
    replace h28 : (l).length ≤ i := by omega
    refine L_nil (thenQ_normal (W_seq (W_false (by kernel_rfl) (W_exit (thenQ_exit (thenQ_exit (blkQ_exit (thenQ_normal (W_seq (W_region (L_run (.func (.func 54) #[] #[(.pointer (some ⟨b4, 0, none⟩))]) (by kernel_rfl) (by kernel_rfl) (L_as (L_nil (thenQ_normal (W_ret ?_)))))))))))))))
    refine end_ret [.tmp 2] [(.func (.func 54) #[] #[(.pointer (some ⟨b4, 0, none⟩))])] rfl hds ⟨by kernel_rfl, trivial⟩ ?_
    have e1 : W = firstM l := by rw [i2, first_end (by omega)]
    rw [e1] at o_m8
    exact ⟨b4, b1, rfl, o_x3, g_x3, o_m8, g_m8, hb⟩

set_option maxHeartbeats 4000000 in
set_option maxRecDepth 100000 in
theorem c_mirrors_Of (v_l : Value) (l : List (Mir)) (r : Int) (w : World) (p_l : Rd w encMir v_l l) (hl : l.length ≤ 1073741824) :
    Calls Tryd.prog 20 #[v_l, (.int .i32 r)] w (Ret fun v w' => v = (.tuple #[(.int .i32 ((ofF l r).1)), (.bool ((ofF l r).2))]) ∧ Below w.heap.size w w') := by
  refine enter (args := [v_l, (.int .i32 r)]) Tryd.func20 rfl (by kernel_rfl : _ = 12) (by kernel_rfl) ?_
  have hb := Below.refl w.heap.size w
  have hs : w.heap.size ≤ w.heap.size := Nat.le_refl _
  have in_p_l := p_l
  refine W_seq (W_region (L_as (L_as (L_nil (thenQ_normal (W_seq (W_region (L_mv (L_call 33 [v_l] (by kernel_rfl) (by kernel_rfl) (c_mirrors_finder v_l l _ p_l (by omega)) ?_)))))))))
  rintro _ w1 ⟨cb2, mb3, rfl, o_cb2, g_cb2, o_mb3, g_mb3, hB4⟩
  replace g_cb2 := Nat.le_trans hs g_cb2
  replace g_mb3 := Nat.le_trans hs g_mb3
  have ne_cb2_mb3 := obj_ne o_cb2 o_mb3 (by simp [mapObj])
  have ne_mb3_cb2 := ne_cb2_mb3.symm
  replace hb := hb.trans (hB4.mono hs)
  replace hs := Nat.le_trans hs (hB4.size)
  replace p_l := p_l.below hB4
  refine L_mv (L_call 54 [(.int .i32 r), (.pointer (some ⟨cb2, 0, none⟩))] (by kernel_rfl) (by kernel_rfl) (c_mirrors_finder_1 r cb2 mb3 (firstM l) _ o_cb2 o_mb3) ?_)
  rintro _ w5 ⟨rfl, hB6⟩
  replace hb := hb.trans (hB6.mono hs)
  replace hs := Nat.le_trans hs (hB6.size)
  replace o_cb2 := obj_below o_cb2 hB6
  replace o_mb3 := obj_below o_mb3 hB6
  replace p_l := p_l.below hB6
  refine L_run (.int .i32 ((ofM (firstM l) r).1)) (by kernel_rfl) (by kernel_rfl) (L_run (.bool ((ofM (firstM l) r).2)) (by kernel_rfl) (by kernel_rfl) (L_as (L_as (L_nil (thenQ_normal (W_ret ?_))))))
  refine end_ret [.tmp 4, .tmp 5] [(.int .i32 ((ofM (firstM l) r).1)), (.bool ((ofM (firstM l) r).2))] rfl rfl ⟨by kernel_rfl, by kernel_rfl, trivial⟩ ?_
  have hE : (((ofM (firstM l) r).1 : Int) = (ofF l r).1) ∧ ((ofM (firstM l) r).2 = (ofF l r).2) := ⟨(by rw [ofM_of]), (by rw [ofM_of])⟩
  exact ⟨tup2 (congrArg (Value.int .i32) hE.1) (congrArg Value.bool hE.2), hb⟩

set_option maxHeartbeats 4000000 in
set_option maxRecDepth 100000 in
theorem c_mirrors_Text (v_l : Value) (l : List (Mir)) (s : List UInt8) (w : World) (p_l : Rd w encMir v_l l) (hl : l.length ≤ 1073741824) (hs : s.length ≤ 268435456) :
    Calls Tryd.prog 17 #[v_l, (S s)] w (Ret fun v w' => v = (.tuple #[(S ((mtextF l s).1)), (.int .i64 (((mtextF l s).2 : Nat) : Int))]) ∧ Below w.heap.size w w') := by
  refine enter (args := [v_l, (S s)]) Tryd.func17 rfl (by kernel_rfl : _ = 51) (by kernel_rfl) ?_
  have hb := Below.refl w.heap.size w
  have hs : w.heap.size ≤ w.heap.size := Nat.le_refl _
  have in_p_l := p_l
  refine W_seq (W_region (L_as (L_as (L_nil (thenQ_normal (W_seq (W_region (L_mv (L_call 33 [v_l] (by kernel_rfl) (by kernel_rfl) (c_mirrors_finder v_l l _ p_l (by first | omega | (have := encL1_len (ofM (firstM l) c_it16).1; omega))) ?_)))))))))
  rintro _ w1 ⟨cb2, mb3, rfl, o_cb2, g_cb2, o_mb3, g_mb3, hB4⟩
  replace g_cb2 := Nat.le_trans hs g_cb2
  replace g_mb3 := Nat.le_trans hs g_mb3
  have ne_cb2_mb3 := obj_ne o_cb2 o_mb3 (by simp [mapObj])
  have ne_mb3_cb2 := ne_cb2_mb3.symm
  replace hb := hb.trans (hB4.mono hs)
  replace hs := Nat.le_trans hs (hB4.size)
  replace p_l := p_l.below hB4
  refine L_as (L_nil (thenQ_normal (W_seq (W_region (L_new (fun b => .pointer (some ⟨b, 0, none⟩)) (.cells [(.pointer none), (.slice none 0 0)].toArray 73 (0, 0)) (by kernel_rfl) (by kernel_rfl) ?_)))))
  intro b5 w6 hN7
  have ne_cb2_x7 : cb2 ≠ b5 := by have := (obj_lt o_cb2); have := hN7.num; omega
  have ne_x7_cb2 := ne_cb2_x7.symm
  have ne_mb3_x7 : mb3 ≠ b5 := by have := (obj_lt o_mb3); have := hN7.num; omega
  have ne_x7_mb3 := ne_mb3_x7.symm
  have g_x7 : w.heap.size ≤ b5 := by rw [hN7.num]; exact hs
  replace hb := hb.trans (hN7.below.mono hs)
  replace hs := Nat.le_trans hs (hN7.below.size)
  replace o_cb2 := obj_below o_cb2 hN7.below
  replace o_mb3 := obj_below o_mb3 hN7.below
  replace p_l := p_l.below hN7.below
  have o_x7 := hN7.here
  refine L_nil (thenQ_normal (W_seq (W_region (L_as (L_nil (thenQ_normal (W_seq (W_seq (W_region (L_mv (L_range s Tryd.underlying9 (by kernel_rfl) ?_)))))))))))
  intro b8 w9 hN10
  have ne_cb2_it16 : cb2 ≠ b8 := by have := (obj_lt o_cb2); have := hN10.num; omega
  have ne_it16_cb2 := ne_cb2_it16.symm
  have ne_mb3_it16 : mb3 ≠ b8 := by have := (obj_lt o_mb3); have := hN10.num; omega
  have ne_it16_mb3 := ne_mb3_it16.symm
  have ne_x7_it16 : b5 ≠ b8 := by have := (obj_lt o_x7); have := hN10.num; omega
  have ne_it16_x7 := ne_x7_it16.symm
  have g_it16 : w.heap.size ≤ b8 := by rw [hN10.num]; exact hs
  replace hb := hb.trans (hN10.below.mono hs)
  replace hs := Nat.le_trans hs (hN10.below.size)
  replace o_cb2 := obj_below o_cb2 hN10.below
  replace o_mb3 := obj_below o_mb3 hN10.below
  replace o_x7 := obj_below o_x7 hN10.below
  replace p_l := p_l.below hN10.below
  have o_it16 := hN10.here
  refine L_nil (thenQ_normal (W_block ?_))
  replace o_x7 := Bld.of (E := 5) o_x7 g_x7
  refine W_loop (fun m s0 w0 => ∃ (pos : Nat) (acc : List UInt8) (n : Nat), (m = s.length - pos) ∧ (s0.ds = []) ∧ (s0.f 1 = (S s)) ∧ (s0.f 4 = (S ([] : List UInt8))) ∧ (s0.f 5 = (.int .i64 0)) ∧ (s0.f 6 = (.func (.func 54) #[] #[(.pointer (some ⟨cb2, 0, none⟩))])) ∧ (s0.f 7 = (.pointer (some ⟨b5, 0, none⟩))) ∧ (s0.f 16 = (.pointer (some ⟨b8, 0, none⟩))) ∧ (s0.f 8 = (.int .i64 ((n : Nat) : Int))) ∧ (Rd w0 encMir v_l l) ∧ (w0.heap[cb2]? = some (.cells [(.map (some mb3))].toArray 84 (0, 0))) ∧ (w0.heap[mb3]? = some (mapObj .i32 .i32 (firstM l))) ∧ (Bld 73 5 w.heap.size b5 acc w0) ∧ (w0.heap[b8]? = some (.stringIter ⟨(s).toArray⟩ pos)) ∧ (Below w.heap.size w w0) ∧ (w.heap.size ≤ w0.heap.size) ∧ (pos ≤ s.length) ∧ (acc.length ≤ 4 * pos) ∧ (n ≤ pos) ∧ (txI (firstM l) s pos acc n)) _ ⟨0, ([] : List UInt8), 0, rfl, by kernel_rfl, by kernel_rfl, by kernel_rfl, by kernel_rfl, by kernel_rfl, by kernel_rfl, by kernel_rfl, by kernel_rfl, p_l, o_cb2, o_mb3, o_x7, o_it16, hb, hs, (Nat.zero_le _), (by simp), (Nat.le_refl _), tx_zero _ _⟩ ?_
  rintro m11 s12 w13 ⟨pos, acc, n, hm, hds, f_1, f_4, f_5, f_6, f_7, f_16, f_8, p_l, o_cb2, o_mb3, o_x7, o_it16, hb, hs, i1, i2, i4, i3⟩
  refine W_set 1 _ f_1 (W_set 4 _ f_4 (W_set 5 _ f_5 (W_set 6 _ f_6 (W_set 7 _ f_7 (W_set 16 _ f_16 (W_set 8 _ f_8 ?_))))))
  clear f_1 f_4 f_5 f_6 f_7 f_16 f_8
  refine W_seq (W_region ?_)
  rcases Nat.lt_or_ge pos (s).length with lt_it16 | ge_it16
  · refine L_next s b8 pos (by kernel_rfl) o_it16 lt_it16 ?_
    intro c_it16 w14 ch_it16 hW15
    replace hb := hb.trans (hW15.below g_it16)
    replace hs := Nat.le_trans hs (Nat.le_of_eq hW15.size.symm)
    have n_o_cb2 := obj_wrote o_cb2 hW15 (obj_ne o_cb2 o_it16 (by simp))
    have n_o_mb3 := obj_wrote o_mb3 hW15 ne_mb3_it16
    have n_o_x7 := Bld.wrote o_x7 hW15 o_it16 (by intro cs X fz e; first | (simp [mapObj] at e; done) | (injection e with _ e2 _; subst e2; decide))
    have n_p_l := in_p_l.below hb
    replace o_cb2 := n_o_cb2; clear n_o_cb2
    replace o_mb3 := n_o_mb3; clear n_o_mb3
    replace o_x7 := n_o_x7; clear n_o_x7
    replace p_l := n_p_l; clear n_p_l
    replace o_it16 := hW15.here
    have := dec_pos s pos; have := dec_fits s pos lt_it16; have := dec_le s pos
    have c_it16_0 : 0 ≤ c_it16 := by omega
    have c_it16_1 : c_it16 ≤ 2147483647 := by omega
    refine L_run (.bool true) (by kernel_rfl) (by kernel_rfl) (L_nil (thenQ_normal (W_seq (W_true (by kernel_rfl) (W_skip (thenQ_normal (W_block (W_seq (W_region (L_run (.int .i64 ((pos : Nat) : Int)) (by kernel_rfl) (by kernel_rfl) (L_run (.int .i32 c_it16) (by kernel_rfl) (by kernel_rfl) (L_as (L_as (L_nil (thenQ_normal (W_seq (W_seq (W_region (L_mv (L_cmp .i32 c_it16 65533 (c_it16 = 65533) rfl (cmp_eq c_it16 65533) (by kernel_rfl) (by kernel_rfl) ?_ ?_))))))))))))))))))))
    · intro h16
      replace h16 : c_it16 = 65533 := by omega
      refine L_mv (L_want (by kernel_rfl) (L_mv (L_want (by kernel_rfl) (L_mv (L_want (by kernel_rfl) (L_ssfrom s pos Tryd.underlying9 (by kernel_rfl) ⟨.i64, by kernel_rfl⟩ (by first | omega | (have := encL1_len (ofM (firstM l) c_it16).1; omega)) (L_want (by kernel_rfl) (L_mv (L_want (by kernel_rfl) (L_runeStr c_it16 (by kernel_rfl) Tryd.underlying21 Tryd.underlying9 (L_want (by kernel_rfl) (L_call 29 [(S (List.drop pos s)), (S (encL [c_it16]))] (by kernel_rfl) (by kernel_rfl) (c_strings_HasPrefix (List.drop pos s) (encL [c_it16]) _ ) ?_))))))))))))
      rintro _ w17 ⟨rfl, hB18⟩
      replace hb := hb.trans (hB18.mono hs)
      replace hs := Nat.le_trans hs (hB18.size)
      replace o_cb2 := obj_below o_cb2 hB18
      replace o_mb3 := obj_below o_mb3 hB18
      replace o_x7 := Bld.below o_x7 hB18
      replace o_it16 := obj_below o_it16 hB18
      replace p_l := p_l.below hB18
      refine put_split (hpB (List.drop pos s) (encL [c_it16])) ?_ ?_
      · intro h20
        refine L_want (by kernel_rfl) (L_not true (by kernel_rfl) (L_pickT (by kernel_rfl) (L_nil (thenQ_normal (W_false (by kernel_rfl) (W_skip (thenQ_normal (W_seq (W_region (L_mv (L_mv (L_call 54 [(.int .i32 c_it16), (.pointer (some ⟨cb2, 0, none⟩))] (by kernel_rfl) (by kernel_rfl) (c_mirrors_finder_1 c_it16 cb2 mb3 (firstM l) _ o_cb2 o_mb3) ?_))))))))))))
        rintro _ w21 ⟨rfl, hB22⟩
        replace hb := hb.trans (hB22.mono hs)
        replace hs := Nat.le_trans hs (hB22.size)
        replace o_cb2 := obj_below o_cb2 hB22
        replace o_mb3 := obj_below o_mb3 hB22
        replace o_x7 := Bld.below o_x7 hB22
        replace o_it16 := obj_below o_it16 hB22
        replace p_l := p_l.below hB22
        refine L_mv (L_run (.int .i32 ((ofM (firstM l) c_it16).1)) (by kernel_rfl) (by kernel_rfl) (L_run (.bool ((ofM (firstM l) c_it16).2)) (by kernel_rfl) (by kernel_rfl) (L_as (L_as (L_nil (thenQ_normal (W_seq (W_seq (W_region (L_mv (L_nil (thenQ_normal ?_))))))))))))
        rcases Bool.eq_false_or_eq_true ((ofM (firstM l) c_it16).2) with hc24 | hc24
        · skip
          refine W_ifT hc24 (by kernel_rfl) (W_region (L_mv (L_addN n 1 (by omega) (by kernel_rfl) (by kernel_rfl) (L_as (L_nil (thenQ_normal (W_region (L_mv (L_new (fun b => .slice (some ⟨b, 0, none⟩) 1 1) (.cells [(.int .i32 ((ofM (firstM l) c_it16).1))].toArray 21 (0, 0)) (by kernel_rfl) (by kernel_rfl) ?_)))))))))
          intro b25 w26 hN27
          have g_b25 : w.heap.size ≤ b25 := by rw [hN27.num]; exact hs
          replace hb := hb.trans (hN27.below.mono hs)
          replace hs := Nat.le_trans hs (hN27.below.size)
          replace o_cb2 := obj_below o_cb2 hN27.below
          replace o_mb3 := obj_below o_mb3 hN27.below
          replace o_x7 := Bld.below o_x7 hN27.below
          replace o_it16 := obj_below o_it16 hN27.below
          replace p_l := p_l.below hN27.below
          have r_b25 : Row w26 w.heap.size 21 1 encI32 (.slice (some ⟨b25, 0, none⟩) 1 1) ([(ofM (firstM l) c_it16).1] : List (Int)) := Row.made ([(ofM (firstM l) c_it16).1] : List (Int)) hN27 g_b25 rfl rfl (by first | decide | (simp; done))
          refine L_call 36 [(.slice (some ⟨b25, 0, none⟩) 1 1)] (by kernel_rfl) (by kernel_rfl) (c_utf_Encode (.slice (some ⟨b25, 0, none⟩) 1 1) ([(ofM (firstM l) c_it16).1] : List (Int)) _ r_b25.rd) ?_
          rintro _ w28 ⟨rfl, hB29⟩
          replace hb := hb.trans (hB29.mono hs)
          replace hs := Nat.le_trans hs (hB29.size)
          replace o_cb2 := obj_below o_cb2 hB29
          replace o_mb3 := obj_below o_mb3 hB29
          replace o_x7 := Bld.below o_x7 hB29
          replace o_it16 := obj_below o_it16 hB29
          replace p_l := p_l.below hB29
          replace r_b25 := r_b25.below hB29
          refine L_call 35 [(.pointer (some ⟨b5, 0, none⟩)), (S (encL ([(ofM (firstM l) c_it16).1] : List (Int))))] (by kernel_rfl) (by kernel_rfl) (bl_WriteString w.heap.size b5 acc (encL ([(ofM (firstM l) c_it16).1] : List (Int))) _ o_x7 (by first | omega | (have := encL1_len (ofM (firstM l) c_it16).1; omega)) (by first | omega | (have := encL1_len (ofM (firstM l) c_it16).1; omega)) hs) ?_
          rintro _ w31 ⟨rfl, nB34, hB32, hO33⟩
          have n_o_cb2 := Bld.obj_kept o_x7 hO33 o_cb2 (by intro cs X fz e; first | (simp [mapObj] at e; done) | (injection e with _ e2 _; subst e2; decide))
          have n_o_mb3 := Bld.obj_kept o_x7 hO33 o_mb3 (by intro cs X fz e; first | (simp [mapObj] at e; done) | (injection e with _ e2 _; subst e2; decide))
          have n_o_it16 := Bld.obj_kept o_x7 hO33 o_it16 (by intro cs X fz e; first | (simp [mapObj] at e; done) | (injection e with _ e2 _; subst e2; decide))
          replace hb := hb.trans hB32
          replace hs := Nat.le_trans hs hB32.size
          have n_p_l := in_p_l.below hb
          have n_r_b25 := Bld.row_kept o_x7 hO33 r_b25 (by kernel_rfl) (by kernel_rfl)
          replace o_cb2 := n_o_cb2; clear n_o_cb2
          replace o_mb3 := n_o_mb3; clear n_o_mb3
          replace o_it16 := n_o_it16; clear n_o_it16
          replace p_l := n_p_l; clear n_p_l
          replace r_b25 := n_r_b25; clear n_r_b25
          replace o_x7 := nB34
          refine L_nil (blkQ_normal ?_)
          refine thenQ_normal ⟨_, ?_, (pos + (dec s pos).2), (acc ++ encL ([(ofM (firstM l) c_it16).1] : List (Int))), (n + 1), rfl, hds, by kernel_rfl, by kernel_rfl, by kernel_rfl, by kernel_rfl, by kernel_rfl, by kernel_rfl, by kernel_rfl, p_l, o_cb2, o_mb3, o_x7, o_it16, hb, hs, ?_, ?_, ?_, ?_⟩
          · omega
          · omega
          · first | (simp only [List.length_append, List.length_cons, List.length_nil]; omega) | (have hz := encL1_len (ofM (firstM l) c_it16).1; simp only [List.length_append]; omega)
          · omega
          · first | exact tx_wrong lt_it16 (wr_yes ch_it16 (by assumption) (by assumption)) (by assumption) i3 | exact tx_yes ch_it16 lt_it16 (wr_no1 ch_it16 (by assumption)) (by assumption) i3 | exact tx_yes ch_it16 lt_it16 (wr_no2 ch_it16 (by assumption)) (by assumption) i3 | exact tx_no ch_it16 lt_it16 (wr_no1 ch_it16 (by assumption)) (by assumption) i3 | exact tx_no ch_it16 lt_it16 (wr_no2 ch_it16 (by assumption)) (by assumption) i3
        · skip
          refine W_ifF hc24 (by kernel_rfl) (W_skip (thenQ_normal (W_region (L_mv (L_new (fun b => .slice (some ⟨b, 0, none⟩) 1 1) (.cells [(.int .i32 ((ofM (firstM l) c_it16).1))].toArray 21 (0, 0)) (by kernel_rfl) (by kernel_rfl) ?_)))))
          intro b35 w36 hN37
          have g_b35 : w.heap.size ≤ b35 := by rw [hN37.num]; exact hs
          replace hb := hb.trans (hN37.below.mono hs)
          replace hs := Nat.le_trans hs (hN37.below.size)
          replace o_cb2 := obj_below o_cb2 hN37.below
          replace o_mb3 := obj_below o_mb3 hN37.below
          replace o_x7 := Bld.below o_x7 hN37.below
          replace o_it16 := obj_below o_it16 hN37.below
          replace p_l := p_l.below hN37.below
          have r_b35 : Row w36 w.heap.size 21 1 encI32 (.slice (some ⟨b35, 0, none⟩) 1 1) ([(ofM (firstM l) c_it16).1] : List (Int)) := Row.made ([(ofM (firstM l) c_it16).1] : List (Int)) hN37 g_b35 rfl rfl (by first | decide | (simp; done))
          refine L_call 36 [(.slice (some ⟨b35, 0, none⟩) 1 1)] (by kernel_rfl) (by kernel_rfl) (c_utf_Encode (.slice (some ⟨b35, 0, none⟩) 1 1) ([(ofM (firstM l) c_it16).1] : List (Int)) _ r_b35.rd) ?_
          rintro _ w38 ⟨rfl, hB39⟩
          replace hb := hb.trans (hB39.mono hs)
          replace hs := Nat.le_trans hs (hB39.size)
          replace o_cb2 := obj_below o_cb2 hB39
          replace o_mb3 := obj_below o_mb3 hB39
          replace o_x7 := Bld.below o_x7 hB39
          replace o_it16 := obj_below o_it16 hB39
          replace p_l := p_l.below hB39
          replace r_b35 := r_b35.below hB39
          refine L_call 35 [(.pointer (some ⟨b5, 0, none⟩)), (S (encL ([(ofM (firstM l) c_it16).1] : List (Int))))] (by kernel_rfl) (by kernel_rfl) (bl_WriteString w.heap.size b5 acc (encL ([(ofM (firstM l) c_it16).1] : List (Int))) _ o_x7 (by first | omega | (have := encL1_len (ofM (firstM l) c_it16).1; omega)) (by first | omega | (have := encL1_len (ofM (firstM l) c_it16).1; omega)) hs) ?_
          rintro _ w41 ⟨rfl, nB44, hB42, hO43⟩
          have n_o_cb2 := Bld.obj_kept o_x7 hO43 o_cb2 (by intro cs X fz e; first | (simp [mapObj] at e; done) | (injection e with _ e2 _; subst e2; decide))
          have n_o_mb3 := Bld.obj_kept o_x7 hO43 o_mb3 (by intro cs X fz e; first | (simp [mapObj] at e; done) | (injection e with _ e2 _; subst e2; decide))
          have n_o_it16 := Bld.obj_kept o_x7 hO43 o_it16 (by intro cs X fz e; first | (simp [mapObj] at e; done) | (injection e with _ e2 _; subst e2; decide))
          replace hb := hb.trans hB42
          replace hs := Nat.le_trans hs hB42.size
          have n_p_l := in_p_l.below hb
          have n_r_b35 := Bld.row_kept o_x7 hO43 r_b35 (by kernel_rfl) (by kernel_rfl)
          replace o_cb2 := n_o_cb2; clear n_o_cb2
          replace o_mb3 := n_o_mb3; clear n_o_mb3
          replace o_it16 := n_o_it16; clear n_o_it16
          replace p_l := n_p_l; clear n_p_l
          replace r_b35 := n_r_b35; clear n_r_b35
          replace o_x7 := nB44
          refine L_nil (blkQ_normal ?_)
          refine thenQ_normal ⟨_, ?_, (pos + (dec s pos).2), (acc ++ encL ([(ofM (firstM l) c_it16).1] : List (Int))), n, rfl, hds, by kernel_rfl, by kernel_rfl, by kernel_rfl, by kernel_rfl, by kernel_rfl, by kernel_rfl, by kernel_rfl, p_l, o_cb2, o_mb3, o_x7, o_it16, hb, hs, ?_, ?_, ?_, ?_⟩
          · omega
          · omega
          · first | (simp only [List.length_append, List.length_cons, List.length_nil]; omega) | (have hz := encL1_len (ofM (firstM l) c_it16).1; simp only [List.length_append]; omega)
          · omega
          · first | exact tx_wrong lt_it16 (wr_yes ch_it16 (by assumption) (by assumption)) (by assumption) i3 | exact tx_yes ch_it16 lt_it16 (wr_no1 ch_it16 (by assumption)) (by assumption) i3 | exact tx_yes ch_it16 lt_it16 (wr_no2 ch_it16 (by assumption)) (by assumption) i3 | exact tx_no ch_it16 lt_it16 (wr_no1 ch_it16 (by assumption)) (by assumption) i3 | exact tx_no ch_it16 lt_it16 (wr_no2 ch_it16 (by assumption)) (by assumption) i3
      · intro h45
        refine L_want (by kernel_rfl) (L_not false (by kernel_rfl) (L_pickT (by kernel_rfl) (L_nil (thenQ_normal (W_true (by kernel_rfl) (W_seq (W_region (L_mv (L_mv ?_)))))))))
        have hz := get_some s pos (by first | omega | (have := encL1_len (ofM (firstM l) c_it16).1; omega)); obtain ⟨c46, hc47⟩ := hz
        have := c46.toNat_lt
        refine L_sindex (k := .i64) s pos c46 Tryd.underlying9 hc47 (by kernel_rfl) (by kernel_rfl) (L_call 34 [(.pointer (some ⟨b5, 0, none⟩)), (.int .u8 ((c46.toNat : Nat) : Int))] (by kernel_rfl) (by kernel_rfl) (bl_WriteByte w.heap.size b5 acc c46 _ o_x7 (by first | omega | (have := encL1_len (ofM (firstM l) c_it16).1; omega)) hs) ?_)
        rintro _ w48 ⟨rfl, nB51, hB49, hO50⟩
        have n_o_cb2 := Bld.obj_kept o_x7 hO50 o_cb2 (by intro cs X fz e; first | (simp [mapObj] at e; done) | (injection e with _ e2 _; subst e2; decide))
        have n_o_mb3 := Bld.obj_kept o_x7 hO50 o_mb3 (by intro cs X fz e; first | (simp [mapObj] at e; done) | (injection e with _ e2 _; subst e2; decide))
        have n_o_it16 := Bld.obj_kept o_x7 hO50 o_it16 (by intro cs X fz e; first | (simp [mapObj] at e; done) | (injection e with _ e2 _; subst e2; decide))
        replace hb := hb.trans hB49
        replace hs := Nat.le_trans hs hB49.size
        have n_p_l := in_p_l.below hb
        replace o_cb2 := n_o_cb2; clear n_o_cb2
        replace o_mb3 := n_o_mb3; clear n_o_mb3
        replace o_it16 := n_o_it16; clear n_o_it16
        replace p_l := n_p_l; clear n_p_l
        replace o_x7 := nB51
        refine L_nil (thenQ_normal (W_exit (thenQ_exit (blkQ_exit ?_))))
        refine thenQ_normal ⟨_, ?_, (pos + (dec s pos).2), (acc ++ [c46]), n, rfl, hds, by kernel_rfl, by kernel_rfl, by kernel_rfl, by kernel_rfl, by kernel_rfl, by kernel_rfl, by kernel_rfl, p_l, o_cb2, o_mb3, o_x7, o_it16, hb, hs, ?_, ?_, ?_, ?_⟩
        · omega
        · omega
        · first | (simp only [List.length_append, List.length_cons, List.length_nil]; omega) | (have hz := encL1_len (ofM (firstM l) c_it16).1; simp only [List.length_append]; omega)
        · omega
        · first | exact tx_wrong lt_it16 (wr_yes ch_it16 (by assumption) (by assumption)) (by assumption) i3 | exact tx_yes ch_it16 lt_it16 (wr_no1 ch_it16 (by assumption)) (by assumption) i3 | exact tx_yes ch_it16 lt_it16 (wr_no2 ch_it16 (by assumption)) (by assumption) i3 | exact tx_no ch_it16 lt_it16 (wr_no1 ch_it16 (by assumption)) (by assumption) i3 | exact tx_no ch_it16 lt_it16 (wr_no2 ch_it16 (by assumption)) (by assumption) i3
    · intro h52
      replace h52 : c_it16 ≠ 65533 := by omega
      refine L_mv (L_skip (by kernel_rfl) (L_skip (by kernel_rfl) (L_skip (by kernel_rfl) (L_skip (by kernel_rfl) (L_skip (by kernel_rfl) (L_skip (by kernel_rfl) (L_skip (by kernel_rfl) (L_pickF (by kernel_rfl) (L_nil (thenQ_normal (W_false (by kernel_rfl) (W_skip (thenQ_normal (W_seq (W_region (L_mv (L_mv (L_call 54 [(.int .i32 c_it16), (.pointer (some ⟨cb2, 0, none⟩))] (by kernel_rfl) (by kernel_rfl) (c_mirrors_finder_1 c_it16 cb2 mb3 (firstM l) _ o_cb2 o_mb3) ?_))))))))))))))))))
      rintro _ w53 ⟨rfl, hB54⟩
      replace hb := hb.trans (hB54.mono hs)
      replace hs := Nat.le_trans hs (hB54.size)
      replace o_cb2 := obj_below o_cb2 hB54
      replace o_mb3 := obj_below o_mb3 hB54
      replace o_x7 := Bld.below o_x7 hB54
      replace o_it16 := obj_below o_it16 hB54
      replace p_l := p_l.below hB54
      refine L_mv (L_run (.int .i32 ((ofM (firstM l) c_it16).1)) (by kernel_rfl) (by kernel_rfl) (L_run (.bool ((ofM (firstM l) c_it16).2)) (by kernel_rfl) (by kernel_rfl) (L_as (L_as (L_nil (thenQ_normal (W_seq (W_seq (W_region (L_mv (L_nil (thenQ_normal ?_))))))))))))
      rcases Bool.eq_false_or_eq_true ((ofM (firstM l) c_it16).2) with hc56 | hc56
      · skip
        refine W_ifT hc56 (by kernel_rfl) (W_region (L_mv (L_addN n 1 (by omega) (by kernel_rfl) (by kernel_rfl) (L_as (L_nil (thenQ_normal (W_region (L_mv (L_new (fun b => .slice (some ⟨b, 0, none⟩) 1 1) (.cells [(.int .i32 ((ofM (firstM l) c_it16).1))].toArray 21 (0, 0)) (by kernel_rfl) (by kernel_rfl) ?_)))))))))
        intro b57 w58 hN59
        have g_b57 : w.heap.size ≤ b57 := by rw [hN59.num]; exact hs
        replace hb := hb.trans (hN59.below.mono hs)
        replace hs := Nat.le_trans hs (hN59.below.size)
        replace o_cb2 := obj_below o_cb2 hN59.below
        replace o_mb3 := obj_below o_mb3 hN59.below
        replace o_x7 := Bld.below o_x7 hN59.below
        replace o_it16 := obj_below o_it16 hN59.below
        replace p_l := p_l.below hN59.below
        have r_b57 : Row w58 w.heap.size 21 1 encI32 (.slice (some ⟨b57, 0, none⟩) 1 1) ([(ofM (firstM l) c_it16).1] : List (Int)) := Row.made ([(ofM (firstM l) c_it16).1] : List (Int)) hN59 g_b57 rfl rfl (by first | decide | (simp; done))
        refine L_call 36 [(.slice (some ⟨b57, 0, none⟩) 1 1)] (by kernel_rfl) (by kernel_rfl) (c_utf_Encode (.slice (some ⟨b57, 0, none⟩) 1 1) ([(ofM (firstM l) c_it16).1] : List (Int)) _ r_b57.rd) ?_
        rintro _ w60 ⟨rfl, hB61⟩
        replace hb := hb.trans (hB61.mono hs)
        replace hs := Nat.le_trans hs (hB61.size)
        replace o_cb2 := obj_below o_cb2 hB61
        replace o_mb3 := obj_below o_mb3 hB61
        replace o_x7 := Bld.below o_x7 hB61
        replace o_it16 := obj_below o_it16 hB61
        replace p_l := p_l.below hB61
        replace r_b57 := r_b57.below hB61
        refine L_call 35 [(.pointer (some ⟨b5, 0, none⟩)), (S (encL ([(ofM (firstM l) c_it16).1] : List (Int))))] (by kernel_rfl) (by kernel_rfl) (bl_WriteString w.heap.size b5 acc (encL ([(ofM (firstM l) c_it16).1] : List (Int))) _ o_x7 (by first | omega | (have := encL1_len (ofM (firstM l) c_it16).1; omega)) (by first | omega | (have := encL1_len (ofM (firstM l) c_it16).1; omega)) hs) ?_
        rintro _ w63 ⟨rfl, nB66, hB64, hO65⟩
        have n_o_cb2 := Bld.obj_kept o_x7 hO65 o_cb2 (by intro cs X fz e; first | (simp [mapObj] at e; done) | (injection e with _ e2 _; subst e2; decide))
        have n_o_mb3 := Bld.obj_kept o_x7 hO65 o_mb3 (by intro cs X fz e; first | (simp [mapObj] at e; done) | (injection e with _ e2 _; subst e2; decide))
        have n_o_it16 := Bld.obj_kept o_x7 hO65 o_it16 (by intro cs X fz e; first | (simp [mapObj] at e; done) | (injection e with _ e2 _; subst e2; decide))
        replace hb := hb.trans hB64
        replace hs := Nat.le_trans hs hB64.size
        have n_p_l := in_p_l.below hb
        have n_r_b57 := Bld.row_kept o_x7 hO65 r_b57 (by kernel_rfl) (by kernel_rfl)
        replace o_cb2 := n_o_cb2; clear n_o_cb2
        replace o_mb3 := n_o_mb3; clear n_o_mb3
        replace o_it16 := n_o_it16; clear n_o_it16
        replace p_l := n_p_l; clear n_p_l
        replace r_b57 := n_r_b57; clear n_r_b57
        replace o_x7 := nB66
        refine L_nil (blkQ_normal ?_)
        refine thenQ_normal ⟨_, ?_, (pos + (dec s pos).2), (acc ++ encL ([(ofM (firstM l) c_it16).1] : List (Int))), (n + 1), rfl, hds, by kernel_rfl, by kernel_rfl, by kernel_rfl, by kernel_rfl, by kernel_rfl, by kernel_rfl, by kernel_rfl, p_l, o_cb2, o_mb3, o_x7, o_it16, hb, hs, ?_, ?_, ?_, ?_⟩
        · omega
        · omega
        · first | (simp only [List.length_append, List.length_cons, List.length_nil]; omega) | (have hz := encL1_len (ofM (firstM l) c_it16).1; simp only [List.length_append]; omega)
        · omega
        · first | exact tx_wrong lt_it16 (wr_yes ch_it16 (by assumption) (by assumption)) (by assumption) i3 | exact tx_yes ch_it16 lt_it16 (wr_no1 ch_it16 (by assumption)) (by assumption) i3 | exact tx_yes ch_it16 lt_it16 (wr_no2 ch_it16 (by assumption)) (by assumption) i3 | exact tx_no ch_it16 lt_it16 (wr_no1 ch_it16 (by assumption)) (by assumption) i3 | exact tx_no ch_it16 lt_it16 (wr_no2 ch_it16 (by assumption)) (by assumption) i3
      · skip
        refine W_ifF hc56 (by kernel_rfl) (W_skip (thenQ_normal (W_region (L_mv (L_new (fun b => .slice (some ⟨b, 0, none⟩) 1 1) (.cells [(.int .i32 ((ofM (firstM l) c_it16).1))].toArray 21 (0, 0)) (by kernel_rfl) (by kernel_rfl) ?_)))))
        intro b67 w68 hN69
        have g_b67 : w.heap.size ≤ b67 := by rw [hN69.num]; exact hs
        replace hb := hb.trans (hN69.below.mono hs)
        replace hs := Nat.le_trans hs (hN69.below.size)
        replace o_cb2 := obj_below o_cb2 hN69.below
        replace o_mb3 := obj_below o_mb3 hN69.below
        replace o_x7 := Bld.below o_x7 hN69.below
        replace o_it16 := obj_below o_it16 hN69.below
        replace p_l := p_l.below hN69.below
        have r_b67 : Row w68 w.heap.size 21 1 encI32 (.slice (some ⟨b67, 0, none⟩) 1 1) ([(ofM (firstM l) c_it16).1] : List (Int)) := Row.made ([(ofM (firstM l) c_it16).1] : List (Int)) hN69 g_b67 rfl rfl (by first | decide | (simp; done))
        refine L_call 36 [(.slice (some ⟨b67, 0, none⟩) 1 1)] (by kernel_rfl) (by kernel_rfl) (c_utf_Encode (.slice (some ⟨b67, 0, none⟩) 1 1) ([(ofM (firstM l) c_it16).1] : List (Int)) _ r_b67.rd) ?_
        rintro _ w70 ⟨rfl, hB71⟩
        replace hb := hb.trans (hB71.mono hs)
        replace hs := Nat.le_trans hs (hB71.size)
        replace o_cb2 := obj_below o_cb2 hB71
        replace o_mb3 := obj_below o_mb3 hB71
        replace o_x7 := Bld.below o_x7 hB71
        replace o_it16 := obj_below o_it16 hB71
        replace p_l := p_l.below hB71
        replace r_b67 := r_b67.below hB71
        refine L_call 35 [(.pointer (some ⟨b5, 0, none⟩)), (S (encL ([(ofM (firstM l) c_it16).1] : List (Int))))] (by kernel_rfl) (by kernel_rfl) (bl_WriteString w.heap.size b5 acc (encL ([(ofM (firstM l) c_it16).1] : List (Int))) _ o_x7 (by first | omega | (have := encL1_len (ofM (firstM l) c_it16).1; omega)) (by first | omega | (have := encL1_len (ofM (firstM l) c_it16).1; omega)) hs) ?_
        rintro _ w73 ⟨rfl, nB76, hB74, hO75⟩
        have n_o_cb2 := Bld.obj_kept o_x7 hO75 o_cb2 (by intro cs X fz e; first | (simp [mapObj] at e; done) | (injection e with _ e2 _; subst e2; decide))
        have n_o_mb3 := Bld.obj_kept o_x7 hO75 o_mb3 (by intro cs X fz e; first | (simp [mapObj] at e; done) | (injection e with _ e2 _; subst e2; decide))
        have n_o_it16 := Bld.obj_kept o_x7 hO75 o_it16 (by intro cs X fz e; first | (simp [mapObj] at e; done) | (injection e with _ e2 _; subst e2; decide))
        replace hb := hb.trans hB74
        replace hs := Nat.le_trans hs hB74.size
        have n_p_l := in_p_l.below hb
        have n_r_b67 := Bld.row_kept o_x7 hO75 r_b67 (by kernel_rfl) (by kernel_rfl)
        replace o_cb2 := n_o_cb2; clear n_o_cb2
        replace o_mb3 := n_o_mb3; clear n_o_mb3
        replace o_it16 := n_o_it16; clear n_o_it16
        replace p_l := n_p_l; clear n_p_l
        replace r_b67 := n_r_b67; clear n_r_b67
        replace o_x7 := nB76
        refine L_nil (blkQ_normal ?_)
        refine thenQ_normal ⟨_, ?_, (pos + (dec s pos).2), (acc ++ encL ([(ofM (firstM l) c_it16).1] : List (Int))), n, rfl, hds, by kernel_rfl, by kernel_rfl, by kernel_rfl, by kernel_rfl, by kernel_rfl, by kernel_rfl, by kernel_rfl, p_l, o_cb2, o_mb3, o_x7, o_it16, hb, hs, ?_, ?_, ?_, ?_⟩
        · omega
        · omega
        · first | (simp only [List.length_append, List.length_cons, List.length_nil]; omega) | (have hz := encL1_len (ofM (firstM l) c_it16).1; simp only [List.length_append]; omega)
        · omega
        · first | exact tx_wrong lt_it16 (wr_yes ch_it16 (by assumption) (by assumption)) (by assumption) i3 | exact tx_yes ch_it16 lt_it16 (wr_no1 ch_it16 (by assumption)) (by assumption) i3 | exact tx_yes ch_it16 lt_it16 (wr_no2 ch_it16 (by assumption)) (by assumption) i3 | exact tx_no ch_it16 lt_it16 (wr_no1 ch_it16 (by assumption)) (by assumption) i3 | exact tx_no ch_it16 lt_it16 (wr_no2 ch_it16 (by assumption)) (by assumption) i3
  · refine L_nextEnd s b8 pos (by kernel_rfl) o_it16 ge_it16 (L_run (.bool false) (by kernel_rfl) (by kernel_rfl) (L_nil (thenQ_normal (W_seq (W_false (by kernel_rfl) (W_exit (thenQ_exit (thenQ_exit (blkQ_exit (thenQ_normal (W_seq (W_region (L_call 37 [(.pointer (some ⟨b5, 0, none⟩))] (by kernel_rfl) (by kernel_rfl) (bldStr (fun B b l w h hB => Tryd.Builder_String_any_k B b l w h hB) acc _ o_x7 hs) ?_)))))))))))))
    rintro _ w77 ⟨rfl, nB80, hB78, hO79⟩
    have n_o_cb2 := Bld.obj_kept o_x7 hO79 o_cb2 (by intro cs X fz e; first | (simp [mapObj] at e; done) | (injection e with _ e2 _; subst e2; decide))
    have n_o_mb3 := Bld.obj_kept o_x7 hO79 o_mb3 (by intro cs X fz e; first | (simp [mapObj] at e; done) | (injection e with _ e2 _; subst e2; decide))
    have n_o_it16 := Bld.obj_kept o_x7 hO79 o_it16 (by intro cs X fz e; first | (simp [mapObj] at e; done) | (injection e with _ e2 _; subst e2; decide))
    replace hb := hb.trans hB78
    replace hs := Nat.le_trans hs hB78.size
    have n_p_l := in_p_l.below hb
    replace o_cb2 := n_o_cb2; clear n_o_cb2
    replace o_mb3 := n_o_mb3; clear n_o_mb3
    replace o_it16 := n_o_it16; clear n_o_it16
    replace p_l := n_p_l; clear n_p_l
    replace o_x7 := nB80
    refine L_mv (L_as (L_as (L_nil (thenQ_normal (W_ret ?_)))))
    refine end_ret [.tmp 4, .tmp 5] [(S acc), (.int .i64 ((n : Nat) : Int))] rfl hds ⟨by kernel_rfl, by kernel_rfl, trivial⟩ ?_
    have hE : (acc = (mtextF l s).1) ∧ (n = (mtextF l s).2) := ⟨(by unfold mtextF; rw [tx_end ge_it16 i3]), (by unfold mtextF; rw [tx_end ge_it16 i3])⟩
    exact ⟨tup2 (congrArg S hE.1) (congrArg (fun x : Nat => Value.int .i64 (x : Int)) hE.2), hb⟩

set_option maxHeartbeats 4000000 in
set_option maxRecDepth 100000 in
theorem c_furrowref09_Text (v_l : Value) (l : List (Mir)) (s : List UInt8) (w : World) (p_l : Rd w encMir v_l l) (hl : l.length ≤ 1073741824) (hs : s.length ≤ 67108864) (hr0 : ∀ m ∈ l, -2147483648 ≤ m.2.2.1 ∧ m.2.2.1 ≤ 2147483647) :
    Calls Tryd.prog 18 #[v_l, (S s)] w (Ret fun v w' => v = (.tuple #[(S ((mtextF l s).1)), (.int .i64 (((mtextF l s).2 : Nat) : Int))]) ∧ Below w.heap.size w w') := by
  refine enter (args := [v_l, (S s)]) Tryd.func18 rfl (by kernel_rfl : _ = 52) (by kernel_rfl) ?_
  have hb := Below.refl w.heap.size w
  have hs : w.heap.size ≤ w.heap.size := Nat.le_refl _
  have in_p_l := p_l
  have hcl := chars_len s
  rw [← chF_len] at hcl
  refine W_seq (W_region (L_as (L_as (L_nil (thenQ_normal (W_seq (W_region (L_as (L_nil (thenQ_normal (W_seq (W_region (L_as (L_nil (thenQ_normal (W_seq (W_seq (W_region (L_mv (L_call 38 [(S s)] (by kernel_rfl) (by kernel_rfl) (c_furrowref03_Chars s _ (by first | omega | (simp only [List.length_append, List.length_drop, List.length_take]; omega) | (simp only [List.length_cons, List.length_nil]; omega))) ?_))))))))))))))))))))
  rintro q1 w2 ⟨_, rfl, r_q1, hB3⟩
  replace r_q1 := r_q1.base hs
  replace hb := hb.trans (hB3.mono hs)
  replace hs := Nat.le_trans hs (hB3.size)
  replace p_l := p_l.below hB3
  have := chF_len s
  have := chars_len s
  refine L_len 79 82 (chF s).length q1 rfl Tryd.underlying79 (r_q1.rd).len (by kernel_rfl) (L_mv (L_nil (thenQ_normal (W_block ?_))))
  refine W_loop (fun m s0 w0 => ∃ (i : Nat) (acc : List UInt8) (n : Nat), (m = (chF s).length - i) ∧ (s0.ds = []) ∧ (s0.f 0 = v_l) ∧ (s0.f 1 = (S s)) ∧ (s0.f 4 = (S ([] : List UInt8))) ∧ (s0.f 5 = (.int .i64 0)) ∧ (s0.f 14 = q1) ∧ (s0.f 15 = (.int .i64 (((chF s).length : Nat) : Int))) ∧ (s0.f 6 = (S acc)) ∧ (s0.f 7 = (.int .i64 ((n : Nat) : Int))) ∧ (s0.f 16 = (.int .i64 ((i : Nat) : Int))) ∧ (Rd w0 encMir v_l l) ∧ (Row w0 w.heap.size 82 4 encChar q1 (chF s)) ∧ (Below w.heap.size w w0) ∧ (w.heap.size ≤ w0.heap.size) ∧ (i ≤ (chF s).length) ∧ (acc.length ≤ 4 * i) ∧ (n ≤ i) ∧ (txtF (firstM l) s ((chF s).take i) = (acc, n))) _ ⟨0, ([] : List UInt8), 0, rfl, by kernel_rfl, by kernel_rfl, by kernel_rfl, by kernel_rfl, by kernel_rfl, by kernel_rfl, by kernel_rfl, by kernel_rfl, by kernel_rfl, by kernel_rfl, p_l, r_q1, hb, hs, (Nat.zero_le _), (by simp), (Nat.le_refl _), rfl⟩ ?_
  rintro m5 s6 w7 ⟨i, acc, n, hm, hds, f_0, f_1, f_4, f_5, f_14, f_15, f_6, f_7, f_16, p_l, r_q1, hb, hs, i1, i2, i4, i3⟩
  refine W_set 0 _ f_0 (W_set 1 _ f_1 (W_set 4 _ f_4 (W_set 5 _ f_5 (W_set 14 _ f_14 (W_set 15 _ f_15 (W_set 6 _ f_6 (W_set 7 _ f_7 (W_set 16 _ f_16 ?_))))))))
  clear f_0 f_1 f_4 f_5 f_14 f_15 f_6 f_7 f_16
  refine W_seq (W_region (L_cmp .i64 ((i : Nat) : Int) (((chF s).length : Nat) : Int) (i < (chF s).length) rfl (cmpN_lt i ((chF s).length)) (by kernel_rfl) (by kernel_rfl) ?_ ?_))
  · intro h8
    replace h8 : i < (chF s).length := by omega
    refine L_nil (thenQ_normal (W_seq (W_true (by kernel_rfl) (W_skip (thenQ_normal (W_seq (W_block (W_seq (W_region ?_)))))))))
    have hz := get_some (chF s) i (by first | omega | (simp only [List.length_append, List.length_drop, List.length_take]; omega) | (simp only [List.length_cons, List.length_nil]; omega)); obtain ⟨x9, hx10⟩ := hz
    have hz := (r_q1.rd).at (k := 4) (fun _ => rfl) hx10
    obtain ⟨g11, off12, hl13, hc14⟩ := hz
    have hcf_x9 := chF_fits hx10
    have hcw_x9 := chF_w hx10
    have hcr_x9 := of_rng hr0 (chF_range hx10)
    have hce_x9 := encL1_len (ofF l x9.2.2.1).1
    have hsl_x9 : (List.drop x9.1 (List.take (x9.1 + x9.2.1) s)).length ≤ 4 := by simp only [List.length_drop, List.length_take]; omega
    refine L_ixaddr (k := .i64) q1 i _ g11 off12 el79 hl13 (by first | omega | (simp only [List.length_append, List.length_drop, List.length_take]; omega) | (simp only [List.length_cons, List.length_nil]; omega)) (by kernel_rfl) (by kernel_rfl) (L_loadA g11 (off12 + i * 4) [(.int .i64 ((x9.1 : Nat) : Int)), (.int .i64 ((x9.2.1 : Nat) : Int)), (.int .i32 x9.2.2.1), (.bool x9.2.2.2)] (by kernel_rfl) (by kernel_rfl) (by kernel_rfl) hc14 (L_new (fun b => .pointer (some ⟨b, 0, none⟩)) (.cells [(.int .i64 0), (.int .i64 0), (.int .i32 0), (.bool false)].toArray 82 (0, 0)) (by kernel_rfl) (by kernel_rfl) ?_))
    intro b15 w16 hN17
    have g_x9 : w.heap.size ≤ b15 := by rw [hN17.num]; exact hs
    have nb_o_x9_r_q1 := r_q1.new_ne hN17
    replace hb := hb.trans (hN17.below.mono hs)
    replace hs := Nat.le_trans hs (hN17.below.size)
    replace p_l := p_l.below hN17.below
    replace r_q1 := r_q1.below hN17.below
    have o_x9 := hN17.here
    refine L_storeA b15 0 [(.int .i64 ((x9.1 : Nat) : Int)), (.int .i64 ((x9.2.1 : Nat) : Int)), (.int .i32 x9.2.2.1), (.bool x9.2.2.2)] [(.int .i64 0), (.int .i64 0), (.int .i32 0), (.bool false)] [(.int .i64 ((x9.1 : Nat) : Int)), (.int .i64 ((x9.2.1 : Nat) : Int)), (.int .i32 x9.2.2.1), (.bool x9.2.2.2)] 82 (by kernel_rfl) (by kernel_rfl) rfl (by kernel_rfl) o_x9 (by kernel_rfl) rfl ?_
    intro w18 hW19
    replace hb := hb.trans (hW19.below g_x9)
    replace hs := Nat.le_trans hs (Nat.le_of_eq hW19.size.symm)
    have n_p_l := in_p_l.below hb
    have n_r_q1 := r_q1.wrote hW19 nb_o_x9_r_q1
    replace p_l := n_p_l; clear n_p_l
    replace r_q1 := n_r_q1; clear n_r_q1
    replace o_x9 := hW19.here
    refine L_nil (thenQ_normal (W_seq (W_region (L_mv (L_run (.pointer (some ⟨b15, 0, none⟩)) (by kernel_rfl) (by kernel_rfl) (L_load b15 0 (.int .i64 ((x9.1 : Nat) : Int)) (by kernel_rfl) (by kernel_rfl) (cell_obj o_x9 rfl) (L_run (.pointer (some ⟨b15, 0, none⟩)) (by kernel_rfl) (by kernel_rfl) (L_load b15 0 (.int .i64 ((x9.1 : Nat) : Int)) (by kernel_rfl) (by kernel_rfl) (cell_obj o_x9 rfl) (L_run (.pointer (some ⟨b15, 1, none⟩)) (by kernel_rfl) (by kernel_rfl) (L_load b15 1 (.int .i64 ((x9.2.1 : Nat) : Int)) (by kernel_rfl) (by kernel_rfl) (cell_obj o_x9 rfl) (L_addN x9.1 x9.2.1 (by omega) (by kernel_rfl) (by kernel_rfl) (L_sslice s x9.1 (x9.1 + x9.2.1) Tryd.underlying9 (by kernel_rfl) ⟨.i64, by kernel_rfl⟩ ⟨.i64, by kernel_rfl⟩ (by first | omega | (simp only [List.length_append, List.length_drop, List.length_take]; omega) | (simp only [List.length_cons, List.length_nil]; omega)) (by first | omega | (simp only [List.length_append, List.length_drop, List.length_take]; omega) | (simp only [List.length_cons, List.length_nil]; omega)) (L_as (L_nil (thenQ_normal (W_seq (W_region (L_mv (L_run (.pointer (some ⟨b15, 2, none⟩)) (by kernel_rfl) (by kernel_rfl) (L_load b15 2 (.int .i32 x9.2.2.1) (by kernel_rfl) (by kernel_rfl) (cell_obj o_x9 rfl) (L_call 21 [v_l, (.int .i32 x9.2.2.1)] (by kernel_rfl) (by kernel_rfl) (c_furrowref09_Of v_l l x9.2.2.1 _ p_l (by first | omega | (simp only [List.length_append, List.length_drop, List.length_take]; omega) | (simp only [List.length_cons, List.length_nil]; omega))) ?_)))))))))))))))))))))
    rintro _ w20 ⟨rfl, hB21⟩
    replace hb := hb.trans (hB21.mono hs)
    replace hs := Nat.le_trans hs (hB21.size)
    replace o_x9 := obj_below o_x9 hB21
    replace p_l := p_l.below hB21
    replace r_q1 := r_q1.below hB21
    refine L_mv (L_run (.int .i32 ((ofF l x9.2.2.1).1)) (by kernel_rfl) (by kernel_rfl) (L_run (.bool ((ofF l x9.2.2.1).2)) (by kernel_rfl) (by kernel_rfl) (put_split ((ofF l x9.2.2.1).2) ?_ ?_)))
    · intro h23
      refine L_as (L_as (L_nil (thenQ_normal (W_seq (W_seq (W_region (L_run (.pointer (some ⟨b15, 3, none⟩)) (by kernel_rfl) (by kernel_rfl) (L_load b15 3 (.bool x9.2.2.2) (by kernel_rfl) (by kernel_rfl) (cell_obj o_x9 rfl) (put_split x9.2.2.2 ?_ ?_)))))))))
      · intro h24
        refine L_mv (L_want (by kernel_rfl) (L_mv (L_pickT (by kernel_rfl) (L_nil (thenQ_normal (W_true (by kernel_rfl) (W_seq (W_region (L_mv (L_new (fun b => .slice (some ⟨b, 0, none⟩) 1 1) (.cells [(.int .i32 ((ofF l x9.2.2.1).1))].toArray 21 (0, 0)) (by kernel_rfl) (by kernel_rfl) ?_))))))))))
        intro b25 w26 hN27
        have g_b25 : w.heap.size ≤ b25 := by rw [hN27.num]; exact hs
        replace hb := hb.trans (hN27.below.mono hs)
        replace hs := Nat.le_trans hs (hN27.below.size)
        replace o_x9 := obj_below o_x9 hN27.below
        replace p_l := p_l.below hN27.below
        replace r_q1 := r_q1.below hN27.below
        have r_b25 : Row w26 w.heap.size 21 1 encI32 (.slice (some ⟨b25, 0, none⟩) 1 1) ([(ofF l x9.2.2.1).1] : List (Int)) := Row.made ([(ofF l x9.2.2.1).1] : List (Int)) hN27 g_b25 rfl rfl (by first | decide | (simp; done))
        refine L_call 39 [(.slice (some ⟨b25, 0, none⟩) 1 1)] (by kernel_rfl) (by kernel_rfl) (c_furrowref01_Encode (.slice (some ⟨b25, 0, none⟩) 1 1) ([(ofF l x9.2.2.1).1] : List (Int)) _ r_b25.rd (by first | omega | (simp only [List.length_append, List.length_drop, List.length_take]; omega) | (simp only [List.length_cons, List.length_nil]; omega)) (by exact fun y hy => one_rng (by assumption) hy)) ?_
        rintro _ w28 ⟨rfl, hB29⟩
        replace hb := hb.trans (hB29.mono hs)
        replace hs := Nat.le_trans hs (hB29.size)
        replace o_x9 := obj_below o_x9 hB29
        replace p_l := p_l.below hB29
        replace r_q1 := r_q1.below hB29
        replace r_b25 := r_b25.below hB29
        refine L_as (L_nil (thenQ_normal (W_region (L_mv (L_addN n 1 (by omega) (by kernel_rfl) (by kernel_rfl) (L_as (L_nil (thenQ_normal (W_region (L_mv (L_mv (L_sadd acc (encL ([(ofF l x9.2.2.1).1] : List (Int))) (by first | omega | (simp only [List.length_append, List.length_cons, List.length_nil]; omega) | (simp only [bytesI, List.length_map, List.length_append, List.length_cons, List.length_nil]; omega)) (by kernel_rfl) (by kernel_rfl) (L_as (L_nil (blkQ_normal (thenQ_normal (W_region (L_addN i 1 (by omega) (by kernel_rfl) (by kernel_rfl) (L_mv (L_nil ?_))))))))))))))))))))
        refine thenQ_normal ⟨_, ?_, (i + 1), (acc ++ encL ([(ofF l x9.2.2.1).1] : List (Int))), (n + 1), rfl, hds, by kernel_rfl, by kernel_rfl, by kernel_rfl, by kernel_rfl, by kernel_rfl, by kernel_rfl, by kernel_rfl, by kernel_rfl, by kernel_rfl, p_l, r_q1, hb, hs, ?_, ?_, ?_, ?_⟩
        · omega
        · omega
        · simp only [List.length_append, List.length_drop, List.length_take]; omega
        · omega
        · first | exact rt_snoc (by assumption) i3 (ctl_yes (by assumption) (by assumption)) | exact rt_snoc (by assumption) i3 (ct_no1 (by assumption)) | exact rt_snoc (by assumption) i3 (ctl_no (by assumption))
      · intro h31
        refine L_mv (L_skip (by kernel_rfl) (L_pickF (by kernel_rfl) (L_nil (thenQ_normal (W_false (by kernel_rfl) (W_skip (thenQ_normal (W_region (L_mv (L_mv (L_sadd acc (List.drop x9.1 (List.take (x9.1 + x9.2.1) s)) (by first | omega | (simp only [List.length_append, List.length_cons, List.length_nil]; omega) | (simp only [bytesI, List.length_map, List.length_append, List.length_cons, List.length_nil]; omega)) (by kernel_rfl) (by kernel_rfl) (L_as (L_nil (blkQ_normal (thenQ_normal (W_region (L_addN i 1 (by omega) (by kernel_rfl) (by kernel_rfl) (L_mv (L_nil ?_)))))))))))))))))))
        refine thenQ_normal ⟨_, ?_, (i + 1), (acc ++ (List.drop x9.1 (List.take (x9.1 + x9.2.1) s))), n, rfl, hds, by kernel_rfl, by kernel_rfl, by kernel_rfl, by kernel_rfl, by kernel_rfl, by kernel_rfl, by kernel_rfl, by kernel_rfl, by kernel_rfl, p_l, r_q1, hb, hs, ?_, ?_, ?_, ?_⟩
        · omega
        · omega
        · simp only [List.length_append, List.length_drop, List.length_take]; omega
        · omega
        · first | exact rt_snoc (by assumption) i3 (ctl_yes (by assumption) (by assumption)) | exact rt_snoc (by assumption) i3 (ct_no1 (by assumption)) | exact rt_snoc (by assumption) i3 (ctl_no (by assumption))
    · intro h32
      refine L_as (L_as (L_nil (thenQ_normal (W_seq (W_seq (W_region (L_run (.pointer (some ⟨b15, 3, none⟩)) (by kernel_rfl) (by kernel_rfl) (L_load b15 3 (.bool x9.2.2.2) (by kernel_rfl) (by kernel_rfl) (cell_obj o_x9 rfl) (put_split x9.2.2.2 ?_ ?_)))))))))
      · intro h33
        refine L_mv (L_want (by kernel_rfl) (L_mv (L_pickT (by kernel_rfl) (L_nil (thenQ_normal (W_false (by kernel_rfl) (W_skip (thenQ_normal (W_region (L_mv (L_mv (L_sadd acc (List.drop x9.1 (List.take (x9.1 + x9.2.1) s)) (by first | omega | (simp only [List.length_append, List.length_cons, List.length_nil]; omega) | (simp only [bytesI, List.length_map, List.length_append, List.length_cons, List.length_nil]; omega)) (by kernel_rfl) (by kernel_rfl) (L_as (L_nil (blkQ_normal (thenQ_normal (W_region (L_addN i 1 (by omega) (by kernel_rfl) (by kernel_rfl) (L_mv (L_nil ?_))))))))))))))))))))
        refine thenQ_normal ⟨_, ?_, (i + 1), (acc ++ (List.drop x9.1 (List.take (x9.1 + x9.2.1) s))), n, rfl, hds, by kernel_rfl, by kernel_rfl, by kernel_rfl, by kernel_rfl, by kernel_rfl, by kernel_rfl, by kernel_rfl, by kernel_rfl, by kernel_rfl, p_l, r_q1, hb, hs, ?_, ?_, ?_, ?_⟩
        · omega
        · omega
        · simp only [List.length_append, List.length_drop, List.length_take]; omega
        · omega
        · first | exact rt_snoc (by assumption) i3 (ctl_yes (by assumption) (by assumption)) | exact rt_snoc (by assumption) i3 (ct_no1 (by assumption)) | exact rt_snoc (by assumption) i3 (ctl_no (by assumption))
      · intro h34
        refine L_mv (L_skip (by kernel_rfl) (L_pickF (by kernel_rfl) (L_nil (thenQ_normal (W_false (by kernel_rfl) (W_skip (thenQ_normal (W_region (L_mv (L_mv (L_sadd acc (List.drop x9.1 (List.take (x9.1 + x9.2.1) s)) (by first | omega | (simp only [List.length_append, List.length_cons, List.length_nil]; omega) | (simp only [bytesI, List.length_map, List.length_append, List.length_cons, List.length_nil]; omega)) (by kernel_rfl) (by kernel_rfl) (L_as (L_nil (blkQ_normal (thenQ_normal (W_region (L_addN i 1 (by omega) (by kernel_rfl) (by kernel_rfl) (L_mv (L_nil ?_)))))))))))))))))))
        refine thenQ_normal ⟨_, ?_, (i + 1), (acc ++ (List.drop x9.1 (List.take (x9.1 + x9.2.1) s))), n, rfl, hds, by kernel_rfl, by kernel_rfl, by kernel_rfl, by kernel_rfl, by kernel_rfl, by kernel_rfl, by kernel_rfl, by kernel_rfl, by kernel_rfl, p_l, r_q1, hb, hs, ?_, ?_, ?_, ?_⟩
        · omega
        · omega
        · simp only [List.length_append, List.length_drop, List.length_take]; omega
        · omega
        · first | exact rt_snoc (by assumption) i3 (ctl_yes (by assumption) (by assumption)) | exact rt_snoc (by assumption) i3 (ct_no1 (by assumption)) | exact rt_snoc (by assumption) i3 (ctl_no (by assumption))
  · intro h35
    replace h35 : (chF s).length ≤ i := by omega
    refine L_nil (thenQ_normal (W_seq (W_false (by kernel_rfl) (W_exit (thenQ_exit (thenQ_exit (blkQ_exit (thenQ_normal (W_seq (W_region (L_mv (L_mv (L_as (L_as (L_nil (thenQ_normal (W_ret ?_)))))))))))))))))
    refine end_ret [.tmp 4, .tmp 5] [(S acc), (.int .i64 ((n : Nat) : Int))] rfl hds ⟨by kernel_rfl, by kernel_rfl, trivial⟩ ?_
    have hE : (acc = (mtextF l s).1) ∧ (n = (mtextF l s).2) := ⟨(by unfold mtextF; rw [rt_end i3 (by omega)]), (by unfold mtextF; rw [rt_end i3 (by omega)])⟩
    exact ⟨tup2 (congrArg S hE.1) (congrArg (fun x : Nat => Value.int .i64 (x : Int)) hE.2), hb⟩

set_option maxHeartbeats 4000000 in
set_option maxRecDepth 100000 in
theorem c_mirrors_Print (v_l : Value) (l : List (Mir)) (w : World) (p_l : Rd w encMir v_l l) (hl : l.length ≤ 33554432) :
    Calls Tryd.prog 24 #[v_l] w (Ret fun v w' => v = (.tuple #[(S ((mprintF l).1)), (.int .i64 ((mprintF l).2))]) ∧ Below w.heap.size w w') := by
  refine enter (args := [v_l]) Tryd.func24 rfl (by kernel_rfl : _ = 50) (by kernel_rfl) ?_
  have hb := Below.refl w.heap.size w
  have hs : w.heap.size ≤ w.heap.size := Nat.le_refl _
  have in_p_l := p_l
  refine W_seq (W_region (L_as (L_as (L_nil (thenQ_normal (W_seq (W_seq (W_region (L_mv (L_call 22 [v_l] (by kernel_rfl) (by kernel_rfl) (c_mirrors_Check v_l l _ p_l (by first | omega | (simp only [List.length_append, List.length_cons, List.length_nil]; omega))) ?_))))))))))
  rintro _ w1 ⟨rfl, hB2⟩
  replace hb := hb.trans (hB2.mono hs)
  replace hs := Nat.le_trans hs (hB2.size)
  replace p_l := p_l.below hB2
  have := mcheck_err l
  have := mcheck_le l
  refine L_mv (L_run (.int .i64 (((mcheckF l).1 : Nat) : Int)) (by kernel_rfl) (by kernel_rfl) (L_run (.int .i64 ((mcheckF l).2)) (by kernel_rfl) (by kernel_rfl) (L_as (L_as (L_nil (thenQ_normal (W_seq (W_region (L_mv (L_cmp .i64 ((mcheckF l).2) 0 ((mcheckF l).2 ≠ 0) rfl (cmp_ne ((mcheckF l).2) 0) (by kernel_rfl) (by kernel_rfl) ?_ ?_))))))))))
  · intro h4
    replace h4 : (mcheckF l).2 ≠ 0 := by omega
    refine L_nil (thenQ_normal (W_true (by kernel_rfl) (W_seq (W_region (L_mv (L_as (L_as (L_nil (thenQ_normal (W_ret (thenQ_ret ?_)))))))))))
    refine end_ret [.tmp 2, .tmp 3] [(S ([] : List UInt8)), (.int .i64 ((mcheckF l).2))] rfl rfl ⟨by kernel_rfl, by kernel_rfl, trivial⟩ ?_
    have hE : (([] : List UInt8) = (mprintF l).1) ∧ (((mcheckF l).2 : Int) = (mprintF l).2) := ⟨(by first | (rw [mp_bad (by assumption)]; done) | (rw [mp_ok (by omega)]; first | done | exact mp_end i3 (by omega))), (by first | (rw [mp_bad (by assumption)]; done) | (rw [mp_ok (by omega)]; first | done | exact mp_end i3 (by omega)))⟩
    exact ⟨tup2 (congrArg S hE.1) (congrArg (Value.int .i64) hE.2), hb⟩
  · intro h5
    replace h5 : (mcheckF l).2 = 0 := by omega
    refine L_nil (thenQ_normal (W_false (by kernel_rfl) (W_skip (thenQ_normal (W_seq (W_region (L_new (fun b => .pointer (some ⟨b, 0, none⟩)) (.cells [(.pointer none), (.slice none 0 0)].toArray 73 (0, 0)) (by kernel_rfl) (by kernel_rfl) ?_)))))))
    intro b6 w7 hN8
    have g_x6 : w.heap.size ≤ b6 := by rw [hN8.num]; exact hs
    replace hb := hb.trans (hN8.below.mono hs)
    replace hs := Nat.le_trans hs (hN8.below.size)
    replace p_l := p_l.below hN8.below
    have o_x6 := hN8.here
    refine L_nil (thenQ_normal (W_seq (W_seq (W_region (L_mv (L_len 35 27 (l).length v_l rfl Tryd.underlying35 (p_l).len (by kernel_rfl) (L_mv (L_nil (thenQ_normal (W_block ?_))))))))))
    replace o_x6 := Bld.of (E := 5) o_x6 g_x6
    refine W_loop (fun m s0 w0 => ∃ (i : Nat) (acc : List UInt8), (m = l.length - i) ∧ (s0.ds = []) ∧ (s0.f 2 = (S ([] : List UInt8))) ∧ (s0.f 3 = (.int .i64 0)) ∧ (s0.f 6 = (.pointer (some ⟨b6, 0, none⟩))) ∧ (s0.f 21 = v_l) ∧ (s0.f 22 = (.int .i64 (((l).length : Nat) : Int))) ∧ (s0.f 23 = (.int .i64 ((i : Nat) : Int))) ∧ (Rd w0 encMir v_l l) ∧ (Bld 73 5 w.heap.size b6 acc w0) ∧ (Below w.heap.size w w0) ∧ (w.heap.size ≤ w0.heap.size) ∧ (i ≤ l.length) ∧ (acc = mbodyF (l.take i))) _ ⟨0, ([] : List UInt8), rfl, by kernel_rfl, by kernel_rfl, by kernel_rfl, by kernel_rfl, by kernel_rfl, by kernel_rfl, by kernel_rfl, p_l, o_x6, hb, hs, (Nat.zero_le _), rfl⟩ ?_
    rintro m9 s10 w11 ⟨i, acc, hm, hds, f_2, f_3, f_6, f_21, f_22, f_23, p_l, o_x6, hb, hs, i1, i3⟩
    refine W_set 2 _ f_2 (W_set 3 _ f_3 (W_set 6 _ f_6 (W_set 21 _ f_21 (W_set 22 _ f_22 (W_set 23 _ f_23 ?_)))))
    clear f_2 f_3 f_6 f_21 f_22 f_23
    have hal := mp_len i3
    refine W_seq (W_region (L_cmp .i64 ((i : Nat) : Int) (((l).length : Nat) : Int) (i < (l).length) rfl (cmpN_lt i ((l).length)) (by kernel_rfl) (by kernel_rfl) ?_ ?_))
    · intro h12
      replace h12 : i < (l).length := by omega
      refine L_nil (thenQ_normal (W_seq (W_true (by kernel_rfl) (W_skip (thenQ_normal (W_seq (W_block (W_seq (W_region ?_)))))))))
      have hz := get_some l i (by first | omega | (simp only [List.length_append, List.length_cons, List.length_nil]; omega)); obtain ⟨x13, hx14⟩ := hz
      have hz := (p_l).at (k := 4) (fun _ => rfl) hx14
      obtain ⟨g15, off16, hl17, hc18⟩ := hz
      have hs1_x13 := showF_len x13.2.1
      have hs2_x13 := showF_len x13.2.2.1
      refine L_ixaddr (k := .i64) v_l i _ g15 off16 el35 hl17 (by first | omega | (simp only [List.length_append, List.length_cons, List.length_nil]; omega)) (by kernel_rfl) (by kernel_rfl) (L_loadA g15 (off16 + i * 4) [(.int .i64 x13.1), (.int .i32 x13.2.1), (.int .i32 x13.2.2.1), (.bool x13.2.2.2)] (by kernel_rfl) (by kernel_rfl) (by kernel_rfl) hc18 (L_new (fun b => .pointer (some ⟨b, 0, none⟩)) (.cells [(.int .i64 0), (.int .i32 0), (.int .i32 0), (.bool false)].toArray 27 (0, 0)) (by kernel_rfl) (by kernel_rfl) ?_))
      intro b19 w20 hN21
      have ne_x6_x8 : b6 ≠ b19 := by have := (Bld.lt o_x6); have := hN21.num; omega
      have ne_x8_x6 := ne_x6_x8.symm
      have g_x8 : w.heap.size ≤ b19 := by rw [hN21.num]; exact hs
      replace hb := hb.trans (hN21.below.mono hs)
      replace hs := Nat.le_trans hs (hN21.below.size)
      replace o_x6 := Bld.below o_x6 hN21.below
      replace p_l := p_l.below hN21.below
      have o_x8 := hN21.here
      refine L_storeA b19 0 [(.int .i64 x13.1), (.int .i32 x13.2.1), (.int .i32 x13.2.2.1), (.bool x13.2.2.2)] [(.int .i64 0), (.int .i32 0), (.int .i32 0), (.bool false)] [(.int .i64 x13.1), (.int .i32 x13.2.1), (.int .i32 x13.2.2.1), (.bool x13.2.2.2)] 27 (by kernel_rfl) (by kernel_rfl) rfl (by kernel_rfl) o_x8 (by kernel_rfl) rfl ?_
      intro w22 hW23
      replace hb := hb.trans (hW23.below g_x8)
      replace hs := Nat.le_trans hs (Nat.le_of_eq hW23.size.symm)
      have n_o_x6 := Bld.wrote o_x6 hW23 o_x8 (by intro cs X fz e; first | (simp [mapObj] at e; done) | (injection e with _ e2 _; subst e2; decide))
      have n_p_l := in_p_l.below hb
      replace o_x6 := n_o_x6; clear n_o_x6
      replace p_l := n_p_l; clear n_p_l
      replace o_x8 := hW23.here
      refine L_nil (thenQ_normal (W_seq (W_region (L_run (.pointer (some ⟨b19, 1, none⟩)) (by kernel_rfl) (by kernel_rfl) (L_load b19 1 (.int .i32 x13.2.1) (by kernel_rfl) (by kernel_rfl) (cell_obj o_x8 rfl) (L_call 43 [(.int .i32 x13.2.1)] (by kernel_rfl) (by kernel_rfl) (c_points_Show x13.2.1 _ ) ?_))))))
      rintro _ w24 ⟨rfl, hB25⟩
      replace hb := hb.trans (hB25.mono hs)
      replace hs := Nat.le_trans hs (hB25.size)
      replace o_x6 := Bld.below o_x6 hB25
      replace o_x8 := obj_below o_x8 hB25
      replace p_l := p_l.below hB25
      refine L_mv (L_run (S ((showF x13.2.1).1)) (by kernel_rfl) (by kernel_rfl) (L_run (.int .i64 ((showF x13.2.1).2)) (by kernel_rfl) (by kernel_rfl) (L_as (L_as (L_nil (thenQ_normal (W_seq (W_region (L_run (.pointer (some ⟨b19, 2, none⟩)) (by kernel_rfl) (by kernel_rfl) (L_load b19 2 (.int .i32 x13.2.2.1) (by kernel_rfl) (by kernel_rfl) (cell_obj o_x8 rfl) (L_call 43 [(.int .i32 x13.2.2.1)] (by kernel_rfl) (by kernel_rfl) (c_points_Show x13.2.2.1 _ ) ?_)))))))))))
      rintro _ w27 ⟨rfl, hB28⟩
      replace hb := hb.trans (hB28.mono hs)
      replace hs := Nat.le_trans hs (hB28.size)
      replace o_x6 := Bld.below o_x6 hB28
      replace o_x8 := obj_below o_x8 hB28
      replace p_l := p_l.below hB28
      refine L_mv (L_run (S ((showF x13.2.2.1).1)) (by kernel_rfl) (by kernel_rfl) (L_run (.int .i64 ((showF x13.2.2.1).2)) (by kernel_rfl) (by kernel_rfl) (L_as (L_as (L_nil (thenQ_normal (W_seq (W_region (L_mv (L_sadd ((showF x13.2.1).1) ([59, 32] : List UInt8) (by first | omega | (simp only [List.length_append, List.length_cons, List.length_nil]; omega) | (simp only [bytesI, List.length_map, List.length_append, List.length_cons, List.length_nil]; omega)) (by kernel_rfl) (by kernel_rfl) (L_mv (L_sadd ((showF x13.2.1).1 ++ ([59, 32] : List UInt8)) ((showF x13.2.2.1).1) (by first | omega | (simp only [List.length_append, List.length_cons, List.length_nil]; omega) | (simp only [bytesI, List.length_map, List.length_append, List.length_cons, List.length_nil]; omega)) (by kernel_rfl) (by kernel_rfl) (L_call 35 [(.pointer (some ⟨b6, 0, none⟩)), (S (((showF x13.2.1).1 ++ ([59, 32] : List UInt8)) ++ (showF x13.2.2.1).1))] (by kernel_rfl) (by kernel_rfl) (bl_WriteString w.heap.size b6 acc (((showF x13.2.1).1 ++ ([59, 32] : List UInt8)) ++ (showF x13.2.2.1).1) _ o_x6 (by first | omega | (simp only [List.length_append, List.length_cons, List.length_nil]; omega)) (by first | omega | (simp only [List.length_append, List.length_cons, List.length_nil]; omega)) hs) ?_)))))))))))))
      rintro _ w30 ⟨rfl, nB33, hB31, hO32⟩
      have n_o_x8 := Bld.obj_kept o_x6 hO32 o_x8 (by intro cs X fz e; first | (simp [mapObj] at e; done) | (injection e with _ e2 _; subst e2; decide))
      replace hb := hb.trans hB31
      replace hs := Nat.le_trans hs hB31.size
      have n_p_l := in_p_l.below hb
      replace o_x8 := n_o_x8; clear n_o_x8
      replace p_l := n_p_l; clear n_p_l
      replace o_x6 := nB33
      refine L_nil (thenQ_normal (W_seq (W_seq (W_region (L_run (.pointer (some ⟨b19, 3, none⟩)) (by kernel_rfl) (by kernel_rfl) (L_load b19 3 (.bool x13.2.2.2) (by kernel_rfl) (by kernel_rfl) (cell_obj o_x8 rfl) (L_nil (thenQ_normal ?_))))))))
      rcases Bool.eq_false_or_eq_true x13.2.2.2 with hc34 | hc34
      · skip
        refine W_ifT hc34 (by kernel_rfl) (W_region (L_call 35 [(.pointer (some ⟨b6, 0, none⟩)), (S ([32, 35, 32, 91, 66, 69, 83, 84, 32, 70, 73, 84, 93] : List UInt8))] (by kernel_rfl) (by kernel_rfl) (bl_WriteString w.heap.size b6 (acc ++ (((showF x13.2.1).1 ++ ([59, 32] : List UInt8)) ++ (showF x13.2.2.1).1)) ([32, 35, 32, 91, 66, 69, 83, 84, 32, 70, 73, 84, 93] : List UInt8) _ o_x6 (by first | omega | (simp only [List.length_append, List.length_cons, List.length_nil]; omega)) (by first | omega | (simp only [List.length_append, List.length_cons, List.length_nil]; omega)) hs) ?_))
        rintro _ w35 ⟨rfl, nB38, hB36, hO37⟩
        have n_o_x8 := Bld.obj_kept o_x6 hO37 o_x8 (by intro cs X fz e; first | (simp [mapObj] at e; done) | (injection e with _ e2 _; subst e2; decide))
        replace hb := hb.trans hB36
        replace hs := Nat.le_trans hs hB36.size
        have n_p_l := in_p_l.below hb
        replace o_x8 := n_o_x8; clear n_o_x8
        replace p_l := n_p_l; clear n_p_l
        replace o_x6 := nB38
        refine L_nil (thenQ_normal (W_region (L_call 34 [(.pointer (some ⟨b6, 0, none⟩)), (.int .u8 10)] (by kernel_rfl) (by kernel_rfl) (bl_WriteByte w.heap.size b6 ((acc ++ (((showF x13.2.1).1 ++ ([59, 32] : List UInt8)) ++ (showF x13.2.2.1).1)) ++ ([32, 35, 32, 91, 66, 69, 83, 84, 32, 70, 73, 84, 93] : List UInt8)) 10 _ o_x6 (by first | omega | (simp only [List.length_append, List.length_cons, List.length_nil]; omega)) hs) ?_)))
        rintro _ w39 ⟨rfl, nB42, hB40, hO41⟩
        have n_o_x8 := Bld.obj_kept o_x6 hO41 o_x8 (by intro cs X fz e; first | (simp [mapObj] at e; done) | (injection e with _ e2 _; subst e2; decide))
        replace hb := hb.trans hB40
        replace hs := Nat.le_trans hs hB40.size
        have n_p_l := in_p_l.below hb
        replace o_x8 := n_o_x8; clear n_o_x8
        replace p_l := n_p_l; clear n_p_l
        replace o_x6 := nB42
        refine L_nil (blkQ_normal (thenQ_normal (W_region (L_addN i 1 (by omega) (by kernel_rfl) (by kernel_rfl) (L_mv (L_nil ?_))))))
        refine thenQ_normal ⟨_, ?_, (i + 1), (((acc ++ (((showF x13.2.1).1 ++ ([59, 32] : List UInt8)) ++ (showF x13.2.2.1).1)) ++ ([32, 35, 32, 91, 66, 69, 83, 84, 32, 70, 73, 84, 93] : List UInt8)) ++ [10]), rfl, hds, by kernel_rfl, by kernel_rfl, by kernel_rfl, by kernel_rfl, by kernel_rfl, by kernel_rfl, p_l, o_x6, hb, hs, ?_, ?_⟩
        · omega
        · omega
        · first | exact mp_yes i3 (by assumption) (by assumption) | exact mp_no i3 (by assumption) (by assumption) | (rw [← mp_yes i3 (by assumption) (by assumption)]; simp [bestN]; done) | (rw [← mp_no i3 (by assumption) (by assumption)]; simp; done)
      · skip
        refine W_ifF hc34 (by kernel_rfl) (W_skip (thenQ_normal (W_region (L_call 34 [(.pointer (some ⟨b6, 0, none⟩)), (.int .u8 10)] (by kernel_rfl) (by kernel_rfl) (bl_WriteByte w.heap.size b6 (acc ++ (((showF x13.2.1).1 ++ ([59, 32] : List UInt8)) ++ (showF x13.2.2.1).1)) 10 _ o_x6 (by first | omega | (simp only [List.length_append, List.length_cons, List.length_nil]; omega)) hs) ?_))))
        rintro _ w43 ⟨rfl, nB46, hB44, hO45⟩
        have n_o_x8 := Bld.obj_kept o_x6 hO45 o_x8 (by intro cs X fz e; first | (simp [mapObj] at e; done) | (injection e with _ e2 _; subst e2; decide))
        replace hb := hb.trans hB44
        replace hs := Nat.le_trans hs hB44.size
        have n_p_l := in_p_l.below hb
        replace o_x8 := n_o_x8; clear n_o_x8
        replace p_l := n_p_l; clear n_p_l
        replace o_x6 := nB46
        refine L_nil (blkQ_normal (thenQ_normal (W_region (L_addN i 1 (by omega) (by kernel_rfl) (by kernel_rfl) (L_mv (L_nil ?_))))))
        refine thenQ_normal ⟨_, ?_, (i + 1), ((acc ++ (((showF x13.2.1).1 ++ ([59, 32] : List UInt8)) ++ (showF x13.2.2.1).1)) ++ [10]), rfl, hds, by kernel_rfl, by kernel_rfl, by kernel_rfl, by kernel_rfl, by kernel_rfl, by kernel_rfl, p_l, o_x6, hb, hs, ?_, ?_⟩
        · omega
        · omega
        · first | exact mp_yes i3 (by assumption) (by assumption) | exact mp_no i3 (by assumption) (by assumption) | (rw [← mp_yes i3 (by assumption) (by assumption)]; simp [bestN]; done) | (rw [← mp_no i3 (by assumption) (by assumption)]; simp; done)
    · intro h47
      replace h47 : (l).length ≤ i := by omega
      refine L_nil (thenQ_normal (W_seq (W_false (by kernel_rfl) (W_exit (thenQ_exit (thenQ_exit (blkQ_exit (thenQ_normal (W_seq (W_region (L_call 37 [(.pointer (some ⟨b6, 0, none⟩))] (by kernel_rfl) (by kernel_rfl) (bldStr (fun B b l w h hB => Tryd.Builder_String_any_k B b l w h hB) acc _ o_x6 hs) ?_)))))))))))
      rintro _ w48 ⟨rfl, nB51, hB49, hO50⟩
      replace hb := hb.trans hB49
      replace hs := Nat.le_trans hs hB49.size
      have n_p_l := in_p_l.below hb
      replace p_l := n_p_l; clear n_p_l
      replace o_x6 := nB51
      refine L_as (L_as (L_nil (thenQ_normal (W_ret ?_))))
      refine end_ret [.tmp 2, .tmp 3] [(S acc), (.int .i64 0)] rfl hds ⟨by kernel_rfl, by kernel_rfl, trivial⟩ ?_
      have hE : (acc = (mprintF l).1) ∧ ((0 : Int) = (mprintF l).2) := ⟨(by first | (rw [mp_bad (by assumption)]; done) | (rw [mp_ok (by omega)]; first | done | exact mp_end i3 (by omega))), (by first | (rw [mp_bad (by assumption)]; done) | (rw [mp_ok (by omega)]; first | done | exact mp_end i3 (by omega)))⟩
      exact ⟨tup2 (congrArg S hE.1) (congrArg (Value.int .i64) hE.2), hb⟩

set_option maxHeartbeats 4000000 in
set_option maxRecDepth 100000 in
theorem c_furrowref09_Print (v_l : Value) (l : List (Mir)) (w : World) (p_l : Rd w encMir v_l l) (hl : l.length ≤ 33554432) :
    Calls Tryd.prog 25 #[v_l] w (Ret fun v w' => v = (.tuple #[(S ((mprintF l).1)), (.int .i64 ((mprintF l).2))]) ∧ Below w.heap.size w w') := by
  refine enter (args := [v_l]) Tryd.func25 rfl (by kernel_rfl : _ = 60) (by kernel_rfl) ?_
  have hb := Below.refl w.heap.size w
  have hs : w.heap.size ≤ w.heap.size := Nat.le_refl _
  have in_p_l := p_l
  refine W_seq (W_region (L_as (L_as (L_nil (thenQ_normal (W_seq (W_seq (W_region (L_mv (L_call 23 [v_l] (by kernel_rfl) (by kernel_rfl) (c_furrowref09_Check v_l l _ p_l (by first | omega | (simp only [List.length_append, List.length_cons, List.length_nil]; omega))) ?_))))))))))
  rintro _ w1 ⟨rfl, hB2⟩
  replace hb := hb.trans (hB2.mono hs)
  replace hs := Nat.le_trans hs (hB2.size)
  replace p_l := p_l.below hB2
  have := mcheck_err l
  have := mcheck_le l
  refine L_mv (L_run (.int .i64 (((mcheckF l).1 : Nat) : Int)) (by kernel_rfl) (by kernel_rfl) (L_run (.int .i64 ((mcheckF l).2)) (by kernel_rfl) (by kernel_rfl) (L_as (L_as (L_nil (thenQ_normal (W_seq (W_region (L_mv (L_cmp .i64 ((mcheckF l).2) 0 ((mcheckF l).2 ≠ 0) rfl (cmp_ne ((mcheckF l).2) 0) (by kernel_rfl) (by kernel_rfl) ?_ ?_))))))))))
  · intro h4
    replace h4 : (mcheckF l).2 ≠ 0 := by omega
    refine L_nil (thenQ_normal (W_true (by kernel_rfl) (W_seq (W_region (L_mv (L_as (L_as (L_nil (thenQ_normal (W_ret (thenQ_ret ?_)))))))))))
    refine end_ret [.tmp 2, .tmp 3] [(S ([] : List UInt8)), (.int .i64 ((mcheckF l).2))] rfl rfl ⟨by kernel_rfl, by kernel_rfl, trivial⟩ ?_
    have hE : (([] : List UInt8) = (mprintF l).1) ∧ (((mcheckF l).2 : Int) = (mprintF l).2) := ⟨(by first | (rw [mp_bad (by assumption)]; done) | (rw [mp_ok (by omega)]; first | done | exact mp_end i3 (by omega))), (by first | (rw [mp_bad (by assumption)]; done) | (rw [mp_ok (by omega)]; first | done | exact mp_end i3 (by omega)))⟩
    exact ⟨tup2 (congrArg S hE.1) (congrArg (Value.int .i64) hE.2), hb⟩
  · intro h5
    replace h5 : (mcheckF l).2 = 0 := by omega
    refine L_nil (thenQ_normal (W_false (by kernel_rfl) (W_skip (thenQ_normal (W_seq (W_region (L_as (L_nil (thenQ_normal (W_seq (W_seq (W_region (L_as (L_nil (thenQ_normal (W_block ?_))))))))))))))))
    refine W_loop (fun m s0 w0 => ∃ (i : Nat) (acc : List UInt8), (m = l.length - i) ∧ (s0.ds = []) ∧ (s0.f 0 = v_l) ∧ (s0.f 2 = (S ([] : List UInt8))) ∧ (s0.f 3 = (.int .i64 0)) ∧ (s0.f 6 = (S acc)) ∧ (s0.f 7 = (.int .i64 ((i : Nat) : Int))) ∧ (Rd w0 encMir v_l l) ∧ (Below w.heap.size w w0) ∧ (w.heap.size ≤ w0.heap.size) ∧ (i ≤ l.length) ∧ (acc = mbodyF (l.take i))) _ ⟨0, ([] : List UInt8), rfl, by kernel_rfl, by kernel_rfl, by kernel_rfl, by kernel_rfl, by kernel_rfl, by kernel_rfl, p_l, hb, hs, (Nat.zero_le _), rfl⟩ ?_
    rintro m6 s7 w8 ⟨i, acc, hm, hds, f_0, f_2, f_3, f_6, f_7, p_l, hb, hs, i1, i3⟩
    refine W_set 0 _ f_0 (W_set 2 _ f_2 (W_set 3 _ f_3 (W_set 6 _ f_6 (W_set 7 _ f_7 ?_))))
    clear f_0 f_2 f_3 f_6 f_7
    have hal := mp_len i3
    refine W_seq (W_seq (W_region (L_mv (L_mv (L_len 35 27 (l).length v_l rfl Tryd.underlying35 (p_l).len (by kernel_rfl) (L_cmp .i64 ((i : Nat) : Int) (((l).length : Nat) : Int) (i < (l).length) rfl (cmpN_lt i ((l).length)) (by kernel_rfl) (by kernel_rfl) ?_ ?_))))))
    · intro h9
      replace h9 : i < (l).length := by omega
      refine L_nil (thenQ_normal (W_true (by kernel_rfl) (W_skip (thenQ_normal (W_seq (W_block (W_seq (W_region (L_mv (L_mv ?_))))))))))
      have hz := get_some l i (by first | omega | (simp only [List.length_append, List.length_cons, List.length_nil]; omega)); obtain ⟨x10, hx11⟩ := hz
      have hz := (p_l).at (k := 4) (fun _ => rfl) hx11
      obtain ⟨g12, off13, hl14, hc15⟩ := hz
      have hs1_x10 := showF_len x10.2.1
      have hs2_x10 := showF_len x10.2.2.1
      refine L_ixaddr (k := .i64) v_l i _ g12 off13 el35 hl14 (by first | omega | (simp only [List.length_append, List.length_cons, List.length_nil]; omega)) (by kernel_rfl) (by kernel_rfl) (L_run (.pointer (some ⟨g12, ((off13 + i * 4) + 1), none⟩)) (by kernel_rfl) (by kernel_rfl) (L_load g12 ((off13 + i * 4) + 1) (.int .i32 x10.2.1) (by kernel_rfl) (by kernel_rfl) (hc15 1 _ rfl) (L_call 44 [(.int .i32 x10.2.1)] (by kernel_rfl) (by kernel_rfl) (c_furrowref04_Show x10.2.1 _ ) ?_)))
      rintro _ w16 ⟨rfl, hB17⟩
      replace hb := hb.trans (hB17.mono hs)
      replace hs := Nat.le_trans hs (hB17.size)
      replace p_l := p_l.below hB17
      refine L_mv (L_run (S ((showF x10.2.1).1)) (by kernel_rfl) (by kernel_rfl) (L_run (.int .i64 ((showF x10.2.1).2)) (by kernel_rfl) (by kernel_rfl) (L_as (L_as (L_nil (thenQ_normal (W_seq (W_region (L_mv (L_mv ?_))))))))))
      have hz := (p_l).at (k := 4) (fun _ => rfl) hx11
      obtain ⟨g21, off22, hl23, hc24⟩ := hz
      refine L_ixaddr (k := .i64) v_l i _ g21 off22 el35 hl23 (by first | omega | (simp only [List.length_append, List.length_cons, List.length_nil]; omega)) (by kernel_rfl) (by kernel_rfl) (L_run (.pointer (some ⟨g21, ((off22 + i * 4) + 2), none⟩)) (by kernel_rfl) (by kernel_rfl) (L_load g21 ((off22 + i * 4) + 2) (.int .i32 x10.2.2.1) (by kernel_rfl) (by kernel_rfl) (hc24 2 _ rfl) (L_call 44 [(.int .i32 x10.2.2.1)] (by kernel_rfl) (by kernel_rfl) (c_furrowref04_Show x10.2.2.1 _ ) ?_)))
      rintro _ w25 ⟨rfl, hB26⟩
      replace hb := hb.trans (hB26.mono hs)
      replace hs := Nat.le_trans hs (hB26.size)
      replace p_l := p_l.below hB26
      refine L_mv (L_run (S ((showF x10.2.2.1).1)) (by kernel_rfl) (by kernel_rfl) (L_run (.int .i64 ((showF x10.2.2.1).2)) (by kernel_rfl) (by kernel_rfl) (L_as (L_as (L_nil (thenQ_normal (W_seq (W_region (L_mv (L_mv (L_sadd ((showF x10.2.1).1) ([59, 32] : List UInt8) (by first | omega | (simp only [List.length_append, List.length_cons, List.length_nil]; omega) | (simp only [bytesI, List.length_map, List.length_append, List.length_cons, List.length_nil]; omega)) (by kernel_rfl) (by kernel_rfl) (L_mv (L_sadd ((showF x10.2.1).1 ++ ([59, 32] : List UInt8)) ((showF x10.2.2.1).1) (by first | omega | (simp only [List.length_append, List.length_cons, List.length_nil]; omega) | (simp only [bytesI, List.length_map, List.length_append, List.length_cons, List.length_nil]; omega)) (by kernel_rfl) (by kernel_rfl) (L_sadd acc (((showF x10.2.1).1 ++ ([59, 32] : List UInt8)) ++ (showF x10.2.2.1).1) (by first | omega | (simp only [List.length_append, List.length_cons, List.length_nil]; omega) | (simp only [bytesI, List.length_map, List.length_append, List.length_cons, List.length_nil]; omega)) (by kernel_rfl) (by kernel_rfl) (L_as (L_nil (thenQ_normal (W_seq (W_seq (W_region (L_mv (L_mv ?_))))))))))))))))))))))
      have hz := (p_l).at (k := 4) (fun _ => rfl) hx11
      obtain ⟨g30, off31, hl32, hc33⟩ := hz
      refine L_ixaddr (k := .i64) v_l i _ g30 off31 el35 hl32 (by first | omega | (simp only [List.length_append, List.length_cons, List.length_nil]; omega)) (by kernel_rfl) (by kernel_rfl) (L_run (.pointer (some ⟨g30, ((off31 + i * 4) + 3), none⟩)) (by kernel_rfl) (by kernel_rfl) (L_load g30 ((off31 + i * 4) + 3) (.bool x10.2.2.2) (by kernel_rfl) (by kernel_rfl) (hc33 3 _ rfl) (L_nil (thenQ_normal ?_))))
      rcases Bool.eq_false_or_eq_true x10.2.2.2 with hc34 | hc34
      · skip
        refine W_ifT hc34 (by kernel_rfl) (W_region (L_mv (L_sadd (acc ++ (((showF x10.2.1).1 ++ ([59, 32] : List UInt8)) ++ (showF x10.2.2.1).1)) ([32, 35, 32, 91, 66, 69, 83, 84, 32, 70, 73, 84, 93] : List UInt8) (by first | omega | (simp only [List.length_append, List.length_cons, List.length_nil]; omega) | (simp only [bytesI, List.length_map, List.length_append, List.length_cons, List.length_nil]; omega)) (by kernel_rfl) (by kernel_rfl) (L_as (L_nil (thenQ_normal (W_region (L_mv (L_sadd ((acc ++ (((showF x10.2.1).1 ++ ([59, 32] : List UInt8)) ++ (showF x10.2.2.1).1)) ++ ([32, 35, 32, 91, 66, 69, 83, 84, 32, 70, 73, 84, 93] : List UInt8)) ([10] : List UInt8) (by first | omega | (simp only [List.length_append, List.length_cons, List.length_nil]; omega) | (simp only [bytesI, List.length_map, List.length_append, List.length_cons, List.length_nil]; omega)) (by kernel_rfl) (by kernel_rfl) (L_as (L_nil (blkQ_normal (thenQ_normal (W_region (L_mv (L_addN i 1 (by omega) (by kernel_rfl) (by kernel_rfl) (L_as (L_nil ?_))))))))))))))))))
        refine thenQ_normal ⟨_, ?_, (i + 1), (((acc ++ (((showF x10.2.1).1 ++ ([59, 32] : List UInt8)) ++ (showF x10.2.2.1).1)) ++ ([32, 35, 32, 91, 66, 69, 83, 84, 32, 70, 73, 84, 93] : List UInt8)) ++ ([10] : List UInt8)), rfl, hds, by kernel_rfl, by kernel_rfl, by kernel_rfl, by kernel_rfl, by kernel_rfl, p_l, hb, hs, ?_, ?_⟩
        · omega
        · omega
        · first | exact mp_yes i3 (by assumption) (by assumption) | exact mp_no i3 (by assumption) (by assumption) | (rw [← mp_yes i3 (by assumption) (by assumption)]; simp [bestN]; done) | (rw [← mp_no i3 (by assumption) (by assumption)]; simp; done)
      · skip
        refine W_ifF hc34 (by kernel_rfl) (W_skip (thenQ_normal (W_region (L_mv (L_sadd (acc ++ (((showF x10.2.1).1 ++ ([59, 32] : List UInt8)) ++ (showF x10.2.2.1).1)) ([10] : List UInt8) (by first | omega | (simp only [List.length_append, List.length_cons, List.length_nil]; omega) | (simp only [bytesI, List.length_map, List.length_append, List.length_cons, List.length_nil]; omega)) (by kernel_rfl) (by kernel_rfl) (L_as (L_nil (blkQ_normal (thenQ_normal (W_region (L_mv (L_addN i 1 (by omega) (by kernel_rfl) (by kernel_rfl) (L_as (L_nil ?_))))))))))))))
        refine thenQ_normal ⟨_, ?_, (i + 1), ((acc ++ (((showF x10.2.1).1 ++ ([59, 32] : List UInt8)) ++ (showF x10.2.2.1).1)) ++ ([10] : List UInt8)), rfl, hds, by kernel_rfl, by kernel_rfl, by kernel_rfl, by kernel_rfl, by kernel_rfl, p_l, hb, hs, ?_, ?_⟩
        · omega
        · omega
        · first | exact mp_yes i3 (by assumption) (by assumption) | exact mp_no i3 (by assumption) (by assumption) | (rw [← mp_yes i3 (by assumption) (by assumption)]; simp [bestN]; done) | (rw [← mp_no i3 (by assumption) (by assumption)]; simp; done)
    · intro h35
      replace h35 : (l).length ≤ i := by omega
      refine L_nil (thenQ_normal (W_false (by kernel_rfl) (W_exit (thenQ_exit (thenQ_exit (blkQ_exit (thenQ_normal (W_seq (W_region (L_mv (L_as (L_as (L_nil (thenQ_normal (W_ret ?_)))))))))))))))
      refine end_ret [.tmp 2, .tmp 3] [(S acc), (.int .i64 0)] rfl hds ⟨by kernel_rfl, by kernel_rfl, trivial⟩ ?_
      have hE : (acc = (mprintF l).1) ∧ ((0 : Int) = (mprintF l).2) := ⟨(by first | (rw [mp_bad (by assumption)]; done) | (rw [mp_ok (by omega)]; first | done | exact mp_end i3 (by omega))), (by first | (rw [mp_bad (by assumption)]; done) | (rw [mp_ok (by omega)]; first | done | exact mp_end i3 (by omega)))⟩
      exact ⟨tup2 (congrArg S hE.1) (congrArg (Value.int .i64) hE.2), hb⟩

set_option maxHeartbeats 4000000 in
set_option maxRecDepth 100000 in
theorem c_furrowref09_Same (n1 : Int) (x1 : Int) (y1 : Int) (z1 : Bool) (n2 : Int) (x2 : Int) (y2 : Int) (z2 : Bool) (w : World) :
    Calls Tryd.prog 46 #[(Value.agg #[(.int .i64 n1), (.int .i32 x1), (.int .i32 y1), (.bool z1)]), (Value.agg #[(.int .i64 n2), (.int .i32 x2), (.int .i32 y2), (.bool z2)])] w (Ret fun v w' => v = (.bool (decide ((x1, y1, z1) = ((x2, y2, z2) : Int × Int × Bool)))) ∧ Below w.heap.size w w') := by
  refine enter (args := [(Value.agg #[(.int .i64 n1), (.int .i32 x1), (.int .i32 y1), (.bool z1)]), (Value.agg #[(.int .i64 n2), (.int .i32 x2), (.int .i32 y2), (.bool z2)])]) Tryd.func46 rfl (by kernel_rfl : _ = 10) (by kernel_rfl) ?_
  have hb := Below.refl w.heap.size w
  have hs : w.heap.size ≤ w.heap.size := Nat.le_refl _
  refine W_seq (W_region (L_new (fun b => .pointer (some ⟨b, 0, none⟩)) (.cells [(.int .i64 n1), (.int .i32 x1), (.int .i32 y1), (.bool z1)].toArray 27 (0, 0)) (by kernel_rfl) (by kernel_rfl) ?_))
  intro b1 w2 hN3
  have g_x2 : w.heap.size ≤ b1 := by rw [hN3.num]; exact hs
  replace hb := hb.trans (hN3.below.mono hs)
  replace hs := Nat.le_trans hs (hN3.below.size)
  have o_x2 := hN3.here
  refine L_new (fun b => .pointer (some ⟨b, 0, none⟩)) (.cells [(.int .i64 n2), (.int .i32 x2), (.int .i32 y2), (.bool z2)].toArray 27 (0, 0)) (by kernel_rfl) (by kernel_rfl) ?_
  intro b4 w5 hN6
  have ne_x2_x3 : b1 ≠ b4 := by have := (obj_lt o_x2); have := hN6.num; omega
  have ne_x3_x2 := ne_x2_x3.symm
  have g_x3 : w.heap.size ≤ b4 := by rw [hN6.num]; exact hs
  replace hb := hb.trans (hN6.below.mono hs)
  replace hs := Nat.le_trans hs (hN6.below.size)
  replace o_x2 := obj_below o_x2 hN6.below
  have o_x3 := hN6.here
  refine L_as (L_nil (thenQ_normal (W_seq (W_region (L_run (.pointer (some ⟨b1, 0, none⟩)) (by kernel_rfl) (by kernel_rfl) (L_store b1 0 (.int .i64 0) [(.int .i64 n1), (.int .i32 x1), (.int .i32 y1), (.bool z1)] [(.int .i64 0), (.int .i32 x1), (.int .i32 y1), (.bool z1)] 27 (by kernel_rfl) (by kernel_rfl) rfl (by kernel_rfl) o_x2 (by simp) rfl ?_))))))
  intro w7 hW8
  replace hb := hb.trans (hW8.below g_x2)
  replace hs := Nat.le_trans hs (Nat.le_of_eq hW8.size.symm)
  have n_o_x3 := obj_wrote o_x3 hW8 ne_x3_x2
  replace o_x3 := n_o_x3; clear n_o_x3
  replace o_x2 := hW8.here
  refine L_nil (thenQ_normal (W_seq (W_region (L_run (.pointer (some ⟨b4, 0, none⟩)) (by kernel_rfl) (by kernel_rfl) (L_store b4 0 (.int .i64 0) [(.int .i64 n2), (.int .i32 x2), (.int .i32 y2), (.bool z2)] [(.int .i64 0), (.int .i32 x2), (.int .i32 y2), (.bool z2)] 27 (by kernel_rfl) (by kernel_rfl) rfl (by kernel_rfl) o_x3 (by simp) rfl ?_)))))
  intro w9 hW10
  replace hb := hb.trans (hW10.below g_x3)
  replace hs := Nat.le_trans hs (Nat.le_of_eq hW10.size.symm)
  have n_o_x2 := obj_wrote o_x2 hW10 ne_x2_x3
  replace o_x2 := n_o_x2; clear n_o_x2
  replace o_x3 := hW10.here
  refine L_nil (thenQ_normal (W_seq (W_region (L_loadA b1 0 [(.int .i64 0), (.int .i32 x1), (.int .i32 y1), (.bool z1)] (by kernel_rfl) (by kernel_rfl) (by kernel_rfl) (cells_at o_x2 0 (by kernel_rfl)) (L_loadA b4 0 [(.int .i64 0), (.int .i32 x2), (.int .i32 y2), (.bool z2)] (by kernel_rfl) (by kernel_rfl) (by kernel_rfl) (cells_at o_x3 0 (by kernel_rfl)) (L_aggeq [(.int .i64 0), (.int .i32 x1), (.int .i32 y1), (.bool z1)] [(.int .i64 0), (.int .i32 x2), (.int .i32 y2), (.bool z2)] (0 == 0 && x1 == x2 && y1 == y2 && z1 == z2) (by kernel_rfl) (by kernel_rfl) (by kernel_rfl) (eqagg27 0 x1 y1 z1 0 x2 y2 z2) ?_ ?_))))))
  · intro h11
    replace h11 : 0 = 0 ∧ x1 = x2 ∧ y1 = y2 ∧ z1 = z2 := by first | simpa using h11 | simpa [and_assoc] using h11 | simp_all
    refine L_as (L_nil (thenQ_normal (W_ret ?_)))
    refine end_ret [.tmp 4] [(.bool true)] rfl rfl ⟨by kernel_rfl, trivial⟩ ?_
    have e0 : true = decide ((x1, y1, z1) = ((x2, y2, z2) : Int × Int × Bool)) := by first | exact (decide_eq_true (by simp_all)).symm | exact (decide_eq_false (by simp_all)).symm
    exact ⟨congrArg Value.bool e0, hb⟩
  · intro h12
    refine L_as (L_nil (thenQ_normal (W_ret ?_)))
    refine end_ret [.tmp 4] [(.bool false)] rfl rfl ⟨by kernel_rfl, trivial⟩ ?_
    have e0 : false = decide ((x1, y1, z1) = ((x2, y2, z2) : Int × Int × Bool)) := by first | exact (decide_eq_true (by simp_all)).symm | exact (decide_eq_false (by simp_all)).symm
    exact ⟨congrArg Value.bool e0, hb⟩

set_option maxHeartbeats 4000000 in
set_option maxRecDepth 100000 in
theorem c_furrowlaw09_sameMirrors (v_a : Value) (a : List (Mir)) (v_b : Value) (b : List (Mir)) (w : World) (p_a : Rd w encMir v_a a) (p_b : Rd w encMir v_b b) (ha : a.length ≤ 1073741824) (hb_ : b.length ≤ 1073741824) :
    Calls Tryd.prog 40 #[v_a, v_b] w (Ret fun v w' => v = (.bool (eqMs a b)) ∧ Below w.heap.size w w') := by
  refine enter (args := [v_a, v_b]) Tryd.func40 rfl (by kernel_rfl : _ = 26) (by kernel_rfl) ?_
  have hb := Below.refl w.heap.size w
  have hs : w.heap.size ≤ w.heap.size := Nat.le_refl _
  have in_p_a := p_a
  have in_p_b := p_b
  refine W_seq (W_region (L_as (L_nil (thenQ_normal (W_seq (W_seq (W_region (L_mv (L_len 35 27 (a).length v_a rfl Tryd.underlying35 (p_a).len (by kernel_rfl) (L_mv (L_len 35 27 (b).length v_b rfl Tryd.underlying35 (p_b).len (by kernel_rfl) (L_cmp .i64 (((a).length : Nat) : Int) (((b).length : Nat) : Int) ((a).length ≠ (b).length) rfl (cmpN_ne ((a).length) ((b).length)) (by kernel_rfl) (by kernel_rfl) ?_ ?_))))))))))))
  · intro h1
    replace h1 : (a).length ≠ (b).length := by omega
    refine L_nil (thenQ_normal (W_true (by kernel_rfl) (W_seq (W_region (L_as (L_nil (thenQ_normal (W_ret (thenQ_ret ?_)))))))))
    refine end_ret [.tmp 4] [(.bool false)] rfl rfl ⟨by kernel_rfl, trivial⟩ ?_
    have e0 : false = eqMs a b := by first | exact (decide_eq_true (take_all i3 i2 (by omega))).symm | exact (decide_eq_false (ne_len (by omega))).symm | exact (decide_eq_false (ne_at (by assumption) (by assumption) (mir_ne (by assumption)))).symm
    exact ⟨congrArg Value.bool e0, hb⟩
  · intro h2
    replace h2 : (a).length = (b).length := by omega
    refine L_nil (thenQ_normal (W_false (by kernel_rfl) (W_skip (thenQ_normal (W_seq (W_seq (W_region (L_as (L_nil (thenQ_normal (W_block ?_)))))))))))
    refine W_loop (fun m s0 w0 => ∃ (i : Nat), (m = a.length - i) ∧ (s0.ds = []) ∧ (s0.f 0 = v_a) ∧ (s0.f 1 = v_b) ∧ (s0.f 5 = (.int .i64 ((i : Nat) : Int))) ∧ (Rd w0 encMir v_a a) ∧ (Rd w0 encMir v_b b) ∧ (Below w.heap.size w w0) ∧ (w.heap.size ≤ w0.heap.size) ∧ (i ≤ a.length) ∧ (a.length = b.length) ∧ (a.take i = b.take i)) _ ⟨0, rfl, by kernel_rfl, by kernel_rfl, by kernel_rfl, by kernel_rfl, p_a, p_b, hb, hs, (Nat.zero_le _), (by omega), rfl⟩ ?_
    rintro m3 s4 w5 ⟨i, hm, hds, f_0, f_1, f_5, p_a, p_b, hb, hs, i1, i2, i3⟩
    refine W_set 0 _ f_0 (W_set 1 _ f_1 (W_set 5 _ f_5 ?_))
    clear f_0 f_1 f_5
    refine W_seq (W_seq (W_region (L_mv (L_mv (L_len 35 27 (a).length v_a rfl Tryd.underlying35 (p_a).len (by kernel_rfl) (L_cmp .i64 ((i : Nat) : Int) (((a).length : Nat) : Int) (i < (a).length) rfl (cmpN_lt i ((a).length)) (by kernel_rfl) (by kernel_rfl) ?_ ?_))))))
    · intro h6
      replace h6 : i < (a).length := by omega
      refine L_nil (thenQ_normal (W_true (by kernel_rfl) (W_skip (thenQ_normal (W_seq (W_block (W_seq (W_draws 9 (by kernel_rfl) (by kernel_rfl) (by kernel_rfl) ?_))))))))
      intro w7 hB8
      replace hb := hb.trans (hB8.mono hs)
      replace hs := Nat.le_trans hs (hB8.size)
      replace p_a := p_a.below hB8
      replace p_b := p_b.below hB8
      refine I_take 0 v_a rfl (by kernel_rfl) (by kernel_rfl) (by kernel_rfl) (by kernel_rfl) (noPanic_then (noPanic_blk (noPanic_then (noPanic_then (noPanic_blk (noPanic_then noPanic_end)))))) (by kernel_rfl) (fun _ => by kernel_rfl) ?_
      refine I_take 1 (.int .i64 ((i : Nat) : Int)) rfl (by kernel_rfl) (by kernel_rfl) (by kernel_rfl) (by kernel_rfl) (noPanic_then (noPanic_blk (noPanic_then (noPanic_then (noPanic_blk (noPanic_then noPanic_end)))))) (by kernel_rfl) (fun _ => by kernel_rfl) ?_
      refine I_take 4 v_b rfl (by kernel_rfl) (by kernel_rfl) (by kernel_rfl) (by kernel_rfl) (noPanic_then (noPanic_blk (noPanic_then (noPanic_then (noPanic_blk (noPanic_then noPanic_end)))))) (by kernel_rfl) (fun _ => by kernel_rfl) ?_
      refine I_take 5 (.int .i64 ((i : Nat) : Int)) rfl (by kernel_rfl) (by kernel_rfl) (by kernel_rfl) (by kernel_rfl) (noPanic_then (noPanic_blk (noPanic_then (noPanic_then (noPanic_blk (noPanic_then noPanic_end)))))) (by kernel_rfl) (fun _ => by kernel_rfl) ?_
      refine I_all2 2 6 (by kernel_rfl) ?_ ?_
      · skip
        refine I_op 2 rfl ?_ rfl
        have hz := get_some a i (by omega); obtain ⟨x9, hx10⟩ := hz
        have hz := (p_a).at (k := 4) (fun _ => rfl) hx10
        obtain ⟨g11, off12, hl13, hc14⟩ := hz
        refine L_ixaddr (k := .i64) v_a i _ g11 off12 el35 hl13 (by omega) (by kernel_rfl) (by kernel_rfl) (L_nil ?_)
        refine ⟨rfl, ?_⟩
        refine I_all2 3 6 (by kernel_rfl) ?_ ?_
        · skip
          refine I_op 3 rfl ?_ rfl
          refine L_loadA g11 (off12 + i * 4) [(.int .i64 x9.1), (.int .i32 x9.2.1), (.int .i32 x9.2.2.1), (.bool x9.2.2.2)] (by kernel_rfl) (by kernel_rfl) (by kernel_rfl) hc14 (L_nil ?_)
          refine ⟨rfl, ?_⟩
          refine I_all1 6 (by kernel_rfl) ?_
          refine I_op 6 rfl ?_ rfl
          have hz := get_some b i (by omega); obtain ⟨x15, hx16⟩ := hz
          have hz := (p_b).at (k := 4) (fun _ => rfl) hx16
          obtain ⟨g17, off18, hl19, hc20⟩ := hz
          refine L_ixaddr (k := .i64) v_b i _ g17 off18 el35 hl19 (by omega) (by kernel_rfl) (by kernel_rfl) (L_nil ?_)
          refine ⟨rfl, ?_⟩
          refine I_all1 7 (by kernel_rfl) ?_
          refine I_op 7 rfl ?_ rfl
          refine L_loadA g17 (off18 + i * 4) [(.int .i64 x15.1), (.int .i32 x15.2.1), (.int .i32 x15.2.2.1), (.bool x15.2.2.2)] (by kernel_rfl) (by kernel_rfl) (by kernel_rfl) hc20 (L_nil ?_)
          refine ⟨rfl, ?_⟩
          refine I_all1 8 (by kernel_rfl) ?_
          refine I_op 8 rfl ?_ rfl
          refine L_aggne [(.int .i64 x9.1), (.int .i32 x9.2.1), (.int .i32 x9.2.2.1), (.bool x9.2.2.2)] [(.int .i64 x15.1), (.int .i32 x15.2.1), (.int .i32 x15.2.2.1), (.bool x15.2.2.2)] (x9.1 == x15.1 && x9.2.1 == x15.2.1 && x9.2.2.1 == x15.2.2.1 && x9.2.2.2 == x15.2.2.2) (by kernel_rfl) (by kernel_rfl) (by kernel_rfl) (eqagg27 x9.1 x9.2.1 x9.2.2.1 x9.2.2.2 x15.1 x15.2.1 x15.2.2.1 x15.2.2.2) ?_ ?_
          · intro h21
            refine L_nil ?_
            refine ⟨rfl, ?_⟩
            refine I_done (by kernel_rfl) ?_
            refine thenQ_normal (W_true (by kernel_rfl) (W_seq (W_region (L_as (L_nil (thenQ_normal (W_ret (blkQ_ret (thenQ_ret (thenQ_ret (blkQ_ret (thenQ_ret ?_))))))))))))
            refine end_ret [.tmp 4] [(.bool false)] rfl hds ⟨by kernel_rfl, trivial⟩ ?_
            have e0 : false = eqMs a b := by first | exact (decide_eq_true (take_all i3 i2 (by omega))).symm | exact (decide_eq_false (ne_len (by omega))).symm | exact (decide_eq_false (ne_at (by assumption) (by assumption) (mir_ne (by assumption)))).symm
            exact ⟨congrArg Value.bool e0, hb⟩
          · intro h22
            replace h22 : x9.1 = x15.1 ∧ x9.2.1 = x15.2.1 ∧ x9.2.2.1 = x15.2.2.1 ∧ x9.2.2.2 = x15.2.2.2 := by first | simpa using h22 | simpa [and_assoc] using h22 | simp_all
            refine L_nil ?_
            refine ⟨rfl, ?_⟩
            refine I_done (by kernel_rfl) ?_
            refine thenQ_normal (W_false (by kernel_rfl) (W_skip (blkQ_normal (thenQ_normal (W_region (L_mv (L_addN i 1 (by omega) (by kernel_rfl) (by kernel_rfl) (L_as (L_nil ?_)))))))))
            refine thenQ_normal ⟨_, ?_, (i + 1), rfl, hds, by kernel_rfl, by kernel_rfl, by kernel_rfl, p_a, p_b, hb, hs, ?_, ?_, ?_⟩
            · omega
            · omega
            · exact i2
            · exact take_same i3 (by assumption) (by assumption) (mir_eq (by assumption))
        · skip
          refine I_op 6 rfl ?_ rfl
          have hz := get_some b i (by omega); obtain ⟨x23, hx24⟩ := hz
          have hz := (p_b).at (k := 4) (fun _ => rfl) hx24
          obtain ⟨g25, off26, hl27, hc28⟩ := hz
          refine L_ixaddr (k := .i64) v_b i _ g25 off26 el35 hl27 (by omega) (by kernel_rfl) (by kernel_rfl) (L_nil ?_)
          refine ⟨rfl, ?_⟩
          refine I_all2 3 7 (by kernel_rfl) ?_ ?_
          · skip
            refine I_op 3 rfl ?_ rfl
            refine L_loadA g11 (off12 + i * 4) [(.int .i64 x9.1), (.int .i32 x9.2.1), (.int .i32 x9.2.2.1), (.bool x9.2.2.2)] (by kernel_rfl) (by kernel_rfl) (by kernel_rfl) hc14 (L_nil ?_)
            refine ⟨rfl, ?_⟩
            refine I_all1 7 (by kernel_rfl) ?_
            refine I_op 7 rfl ?_ rfl
            refine L_loadA g25 (off26 + i * 4) [(.int .i64 x23.1), (.int .i32 x23.2.1), (.int .i32 x23.2.2.1), (.bool x23.2.2.2)] (by kernel_rfl) (by kernel_rfl) (by kernel_rfl) hc28 (L_nil ?_)
            refine ⟨rfl, ?_⟩
            refine I_all1 8 (by kernel_rfl) ?_
            refine I_op 8 rfl ?_ rfl
            refine L_aggne [(.int .i64 x9.1), (.int .i32 x9.2.1), (.int .i32 x9.2.2.1), (.bool x9.2.2.2)] [(.int .i64 x23.1), (.int .i32 x23.2.1), (.int .i32 x23.2.2.1), (.bool x23.2.2.2)] (x9.1 == x23.1 && x9.2.1 == x23.2.1 && x9.2.2.1 == x23.2.2.1 && x9.2.2.2 == x23.2.2.2) (by kernel_rfl) (by kernel_rfl) (by kernel_rfl) (eqagg27 x9.1 x9.2.1 x9.2.2.1 x9.2.2.2 x23.1 x23.2.1 x23.2.2.1 x23.2.2.2) ?_ ?_
            · intro h29
              refine L_nil ?_
              refine ⟨rfl, ?_⟩
              refine I_done (by kernel_rfl) ?_
              refine thenQ_normal (W_true (by kernel_rfl) (W_seq (W_region (L_as (L_nil (thenQ_normal (W_ret (blkQ_ret (thenQ_ret (thenQ_ret (blkQ_ret (thenQ_ret ?_))))))))))))
              refine end_ret [.tmp 4] [(.bool false)] rfl hds ⟨by kernel_rfl, trivial⟩ ?_
              have e0 : false = eqMs a b := by first | exact (decide_eq_true (take_all i3 i2 (by omega))).symm | exact (decide_eq_false (ne_len (by omega))).symm | exact (decide_eq_false (ne_at (by assumption) (by assumption) (mir_ne (by assumption)))).symm
              exact ⟨congrArg Value.bool e0, hb⟩
            · intro h30
              replace h30 : x9.1 = x23.1 ∧ x9.2.1 = x23.2.1 ∧ x9.2.2.1 = x23.2.2.1 ∧ x9.2.2.2 = x23.2.2.2 := by first | simpa using h30 | simpa [and_assoc] using h30 | simp_all
              refine L_nil ?_
              refine ⟨rfl, ?_⟩
              refine I_done (by kernel_rfl) ?_
              refine thenQ_normal (W_false (by kernel_rfl) (W_skip (blkQ_normal (thenQ_normal (W_region (L_mv (L_addN i 1 (by omega) (by kernel_rfl) (by kernel_rfl) (L_as (L_nil ?_)))))))))
              refine thenQ_normal ⟨_, ?_, (i + 1), rfl, hds, by kernel_rfl, by kernel_rfl, by kernel_rfl, p_a, p_b, hb, hs, ?_, ?_, ?_⟩
              · omega
              · omega
              · exact i2
              · exact take_same i3 (by assumption) (by assumption) (mir_eq (by assumption))
          · skip
            refine I_op 7 rfl ?_ rfl
            refine L_loadA g25 (off26 + i * 4) [(.int .i64 x23.1), (.int .i32 x23.2.1), (.int .i32 x23.2.2.1), (.bool x23.2.2.2)] (by kernel_rfl) (by kernel_rfl) (by kernel_rfl) hc28 (L_nil ?_)
            refine ⟨rfl, ?_⟩
            refine I_all1 3 (by kernel_rfl) ?_
            refine I_op 3 rfl ?_ rfl
            refine L_loadA g11 (off12 + i * 4) [(.int .i64 x9.1), (.int .i32 x9.2.1), (.int .i32 x9.2.2.1), (.bool x9.2.2.2)] (by kernel_rfl) (by kernel_rfl) (by kernel_rfl) hc14 (L_nil ?_)
            refine ⟨rfl, ?_⟩
            refine I_all1 8 (by kernel_rfl) ?_
            refine I_op 8 rfl ?_ rfl
            refine L_aggne [(.int .i64 x9.1), (.int .i32 x9.2.1), (.int .i32 x9.2.2.1), (.bool x9.2.2.2)] [(.int .i64 x23.1), (.int .i32 x23.2.1), (.int .i32 x23.2.2.1), (.bool x23.2.2.2)] (x9.1 == x23.1 && x9.2.1 == x23.2.1 && x9.2.2.1 == x23.2.2.1 && x9.2.2.2 == x23.2.2.2) (by kernel_rfl) (by kernel_rfl) (by kernel_rfl) (eqagg27 x9.1 x9.2.1 x9.2.2.1 x9.2.2.2 x23.1 x23.2.1 x23.2.2.1 x23.2.2.2) ?_ ?_
            · intro h31
              refine L_nil ?_
              refine ⟨rfl, ?_⟩
              refine I_done (by kernel_rfl) ?_
              refine thenQ_normal (W_true (by kernel_rfl) (W_seq (W_region (L_as (L_nil (thenQ_normal (W_ret (blkQ_ret (thenQ_ret (thenQ_ret (blkQ_ret (thenQ_ret ?_))))))))))))
              refine end_ret [.tmp 4] [(.bool false)] rfl hds ⟨by kernel_rfl, trivial⟩ ?_
              have e0 : false = eqMs a b := by first | exact (decide_eq_true (take_all i3 i2 (by omega))).symm | exact (decide_eq_false (ne_len (by omega))).symm | exact (decide_eq_false (ne_at (by assumption) (by assumption) (mir_ne (by assumption)))).symm
              exact ⟨congrArg Value.bool e0, hb⟩
            · intro h32
              replace h32 : x9.1 = x23.1 ∧ x9.2.1 = x23.2.1 ∧ x9.2.2.1 = x23.2.2.1 ∧ x9.2.2.2 = x23.2.2.2 := by first | simpa using h32 | simpa [and_assoc] using h32 | simp_all
              refine L_nil ?_
              refine ⟨rfl, ?_⟩
              refine I_done (by kernel_rfl) ?_
              refine thenQ_normal (W_false (by kernel_rfl) (W_skip (blkQ_normal (thenQ_normal (W_region (L_mv (L_addN i 1 (by omega) (by kernel_rfl) (by kernel_rfl) (L_as (L_nil ?_)))))))))
              refine thenQ_normal ⟨_, ?_, (i + 1), rfl, hds, by kernel_rfl, by kernel_rfl, by kernel_rfl, p_a, p_b, hb, hs, ?_, ?_, ?_⟩
              · omega
              · omega
              · exact i2
              · exact take_same i3 (by assumption) (by assumption) (mir_eq (by assumption))
      · skip
        refine I_op 6 rfl ?_ rfl
        have hz := get_some b i (by omega); obtain ⟨x33, hx34⟩ := hz
        have hz := (p_b).at (k := 4) (fun _ => rfl) hx34
        obtain ⟨g35, off36, hl37, hc38⟩ := hz
        refine L_ixaddr (k := .i64) v_b i _ g35 off36 el35 hl37 (by omega) (by kernel_rfl) (by kernel_rfl) (L_nil ?_)
        refine ⟨rfl, ?_⟩
        refine I_all2 2 7 (by kernel_rfl) ?_ ?_
        · skip
          refine I_op 2 rfl ?_ rfl
          have hz := get_some a i (by omega); obtain ⟨x39, hx40⟩ := hz
          have hz := (p_a).at (k := 4) (fun _ => rfl) hx40
          obtain ⟨g41, off42, hl43, hc44⟩ := hz
          refine L_ixaddr (k := .i64) v_a i _ g41 off42 el35 hl43 (by omega) (by kernel_rfl) (by kernel_rfl) (L_nil ?_)
          refine ⟨rfl, ?_⟩
          refine I_all2 3 7 (by kernel_rfl) ?_ ?_
          · skip
            refine I_op 3 rfl ?_ rfl
            refine L_loadA g41 (off42 + i * 4) [(.int .i64 x39.1), (.int .i32 x39.2.1), (.int .i32 x39.2.2.1), (.bool x39.2.2.2)] (by kernel_rfl) (by kernel_rfl) (by kernel_rfl) hc44 (L_nil ?_)
            refine ⟨rfl, ?_⟩
            refine I_all1 7 (by kernel_rfl) ?_
            refine I_op 7 rfl ?_ rfl
            refine L_loadA g35 (off36 + i * 4) [(.int .i64 x33.1), (.int .i32 x33.2.1), (.int .i32 x33.2.2.1), (.bool x33.2.2.2)] (by kernel_rfl) (by kernel_rfl) (by kernel_rfl) hc38 (L_nil ?_)
            refine ⟨rfl, ?_⟩
            refine I_all1 8 (by kernel_rfl) ?_
            refine I_op 8 rfl ?_ rfl
            refine L_aggne [(.int .i64 x39.1), (.int .i32 x39.2.1), (.int .i32 x39.2.2.1), (.bool x39.2.2.2)] [(.int .i64 x33.1), (.int .i32 x33.2.1), (.int .i32 x33.2.2.1), (.bool x33.2.2.2)] (x39.1 == x33.1 && x39.2.1 == x33.2.1 && x39.2.2.1 == x33.2.2.1 && x39.2.2.2 == x33.2.2.2) (by kernel_rfl) (by kernel_rfl) (by kernel_rfl) (eqagg27 x39.1 x39.2.1 x39.2.2.1 x39.2.2.2 x33.1 x33.2.1 x33.2.2.1 x33.2.2.2) ?_ ?_
            · intro h45
              refine L_nil ?_
              refine ⟨rfl, ?_⟩
              refine I_done (by kernel_rfl) ?_
              refine thenQ_normal (W_true (by kernel_rfl) (W_seq (W_region (L_as (L_nil (thenQ_normal (W_ret (blkQ_ret (thenQ_ret (thenQ_ret (blkQ_ret (thenQ_ret ?_))))))))))))
              refine end_ret [.tmp 4] [(.bool false)] rfl hds ⟨by kernel_rfl, trivial⟩ ?_
              have e0 : false = eqMs a b := by first | exact (decide_eq_true (take_all i3 i2 (by omega))).symm | exact (decide_eq_false (ne_len (by omega))).symm | exact (decide_eq_false (ne_at (by assumption) (by assumption) (mir_ne (by assumption)))).symm
              exact ⟨congrArg Value.bool e0, hb⟩
            · intro h46
              replace h46 : x39.1 = x33.1 ∧ x39.2.1 = x33.2.1 ∧ x39.2.2.1 = x33.2.2.1 ∧ x39.2.2.2 = x33.2.2.2 := by first | simpa using h46 | simpa [and_assoc] using h46 | simp_all
              refine L_nil ?_
              refine ⟨rfl, ?_⟩
              refine I_done (by kernel_rfl) ?_
              refine thenQ_normal (W_false (by kernel_rfl) (W_skip (blkQ_normal (thenQ_normal (W_region (L_mv (L_addN i 1 (by omega) (by kernel_rfl) (by kernel_rfl) (L_as (L_nil ?_)))))))))
              refine thenQ_normal ⟨_, ?_, (i + 1), rfl, hds, by kernel_rfl, by kernel_rfl, by kernel_rfl, p_a, p_b, hb, hs, ?_, ?_, ?_⟩
              · omega
              · omega
              · exact i2
              · exact take_same i3 (by assumption) (by assumption) (mir_eq (by assumption))
          · skip
            refine I_op 7 rfl ?_ rfl
            refine L_loadA g35 (off36 + i * 4) [(.int .i64 x33.1), (.int .i32 x33.2.1), (.int .i32 x33.2.2.1), (.bool x33.2.2.2)] (by kernel_rfl) (by kernel_rfl) (by kernel_rfl) hc38 (L_nil ?_)
            refine ⟨rfl, ?_⟩
            refine I_all1 3 (by kernel_rfl) ?_
            refine I_op 3 rfl ?_ rfl
            refine L_loadA g41 (off42 + i * 4) [(.int .i64 x39.1), (.int .i32 x39.2.1), (.int .i32 x39.2.2.1), (.bool x39.2.2.2)] (by kernel_rfl) (by kernel_rfl) (by kernel_rfl) hc44 (L_nil ?_)
            refine ⟨rfl, ?_⟩
            refine I_all1 8 (by kernel_rfl) ?_
            refine I_op 8 rfl ?_ rfl
            refine L_aggne [(.int .i64 x39.1), (.int .i32 x39.2.1), (.int .i32 x39.2.2.1), (.bool x39.2.2.2)] [(.int .i64 x33.1), (.int .i32 x33.2.1), (.int .i32 x33.2.2.1), (.bool x33.2.2.2)] (x39.1 == x33.1 && x39.2.1 == x33.2.1 && x39.2.2.1 == x33.2.2.1 && x39.2.2.2 == x33.2.2.2) (by kernel_rfl) (by kernel_rfl) (by kernel_rfl) (eqagg27 x39.1 x39.2.1 x39.2.2.1 x39.2.2.2 x33.1 x33.2.1 x33.2.2.1 x33.2.2.2) ?_ ?_
            · intro h47
              refine L_nil ?_
              refine ⟨rfl, ?_⟩
              refine I_done (by kernel_rfl) ?_
              refine thenQ_normal (W_true (by kernel_rfl) (W_seq (W_region (L_as (L_nil (thenQ_normal (W_ret (blkQ_ret (thenQ_ret (thenQ_ret (blkQ_ret (thenQ_ret ?_))))))))))))
              refine end_ret [.tmp 4] [(.bool false)] rfl hds ⟨by kernel_rfl, trivial⟩ ?_
              have e0 : false = eqMs a b := by first | exact (decide_eq_true (take_all i3 i2 (by omega))).symm | exact (decide_eq_false (ne_len (by omega))).symm | exact (decide_eq_false (ne_at (by assumption) (by assumption) (mir_ne (by assumption)))).symm
              exact ⟨congrArg Value.bool e0, hb⟩
            · intro h48
              replace h48 : x39.1 = x33.1 ∧ x39.2.1 = x33.2.1 ∧ x39.2.2.1 = x33.2.2.1 ∧ x39.2.2.2 = x33.2.2.2 := by first | simpa using h48 | simpa [and_assoc] using h48 | simp_all
              refine L_nil ?_
              refine ⟨rfl, ?_⟩
              refine I_done (by kernel_rfl) ?_
              refine thenQ_normal (W_false (by kernel_rfl) (W_skip (blkQ_normal (thenQ_normal (W_region (L_mv (L_addN i 1 (by omega) (by kernel_rfl) (by kernel_rfl) (L_as (L_nil ?_)))))))))
              refine thenQ_normal ⟨_, ?_, (i + 1), rfl, hds, by kernel_rfl, by kernel_rfl, by kernel_rfl, p_a, p_b, hb, hs, ?_, ?_, ?_⟩
              · omega
              · omega
              · exact i2
              · exact take_same i3 (by assumption) (by assumption) (mir_eq (by assumption))
        · skip
          refine I_op 7 rfl ?_ rfl
          refine L_loadA g35 (off36 + i * 4) [(.int .i64 x33.1), (.int .i32 x33.2.1), (.int .i32 x33.2.2.1), (.bool x33.2.2.2)] (by kernel_rfl) (by kernel_rfl) (by kernel_rfl) hc38 (L_nil ?_)
          refine ⟨rfl, ?_⟩
          refine I_all1 2 (by kernel_rfl) ?_
          refine I_op 2 rfl ?_ rfl
          have hz := get_some a i (by omega); obtain ⟨x49, hx50⟩ := hz
          have hz := (p_a).at (k := 4) (fun _ => rfl) hx50
          obtain ⟨g51, off52, hl53, hc54⟩ := hz
          refine L_ixaddr (k := .i64) v_a i _ g51 off52 el35 hl53 (by omega) (by kernel_rfl) (by kernel_rfl) (L_nil ?_)
          refine ⟨rfl, ?_⟩
          refine I_all1 3 (by kernel_rfl) ?_
          refine I_op 3 rfl ?_ rfl
          refine L_loadA g51 (off52 + i * 4) [(.int .i64 x49.1), (.int .i32 x49.2.1), (.int .i32 x49.2.2.1), (.bool x49.2.2.2)] (by kernel_rfl) (by kernel_rfl) (by kernel_rfl) hc54 (L_nil ?_)
          refine ⟨rfl, ?_⟩
          refine I_all1 8 (by kernel_rfl) ?_
          refine I_op 8 rfl ?_ rfl
          refine L_aggne [(.int .i64 x49.1), (.int .i32 x49.2.1), (.int .i32 x49.2.2.1), (.bool x49.2.2.2)] [(.int .i64 x33.1), (.int .i32 x33.2.1), (.int .i32 x33.2.2.1), (.bool x33.2.2.2)] (x49.1 == x33.1 && x49.2.1 == x33.2.1 && x49.2.2.1 == x33.2.2.1 && x49.2.2.2 == x33.2.2.2) (by kernel_rfl) (by kernel_rfl) (by kernel_rfl) (eqagg27 x49.1 x49.2.1 x49.2.2.1 x49.2.2.2 x33.1 x33.2.1 x33.2.2.1 x33.2.2.2) ?_ ?_
          · intro h55
            refine L_nil ?_
            refine ⟨rfl, ?_⟩
            refine I_done (by kernel_rfl) ?_
            refine thenQ_normal (W_true (by kernel_rfl) (W_seq (W_region (L_as (L_nil (thenQ_normal (W_ret (blkQ_ret (thenQ_ret (thenQ_ret (blkQ_ret (thenQ_ret ?_))))))))))))
            refine end_ret [.tmp 4] [(.bool false)] rfl hds ⟨by kernel_rfl, trivial⟩ ?_
            have e0 : false = eqMs a b := by first | exact (decide_eq_true (take_all i3 i2 (by omega))).symm | exact (decide_eq_false (ne_len (by omega))).symm | exact (decide_eq_false (ne_at (by assumption) (by assumption) (mir_ne (by assumption)))).symm
            exact ⟨congrArg Value.bool e0, hb⟩
          · intro h56
            replace h56 : x49.1 = x33.1 ∧ x49.2.1 = x33.2.1 ∧ x49.2.2.1 = x33.2.2.1 ∧ x49.2.2.2 = x33.2.2.2 := by first | simpa using h56 | simpa [and_assoc] using h56 | simp_all
            refine L_nil ?_
            refine ⟨rfl, ?_⟩
            refine I_done (by kernel_rfl) ?_
            refine thenQ_normal (W_false (by kernel_rfl) (W_skip (blkQ_normal (thenQ_normal (W_region (L_mv (L_addN i 1 (by omega) (by kernel_rfl) (by kernel_rfl) (L_as (L_nil ?_)))))))))
            refine thenQ_normal ⟨_, ?_, (i + 1), rfl, hds, by kernel_rfl, by kernel_rfl, by kernel_rfl, p_a, p_b, hb, hs, ?_, ?_, ?_⟩
            · omega
            · omega
            · exact i2
            · exact take_same i3 (by assumption) (by assumption) (mir_eq (by assumption))
    · intro h57
      replace h57 : (a).length ≤ i := by omega
      refine L_nil (thenQ_normal (W_false (by kernel_rfl) (W_exit (thenQ_exit (thenQ_exit (blkQ_exit (thenQ_normal (W_seq (W_region (L_as (L_nil (thenQ_normal (W_ret ?_)))))))))))))
      refine end_ret [.tmp 4] [(.bool true)] rfl hds ⟨by kernel_rfl, trivial⟩ ?_
      have e0 : true = eqMs a b := by first | exact (decide_eq_true (take_all i3 i2 (by omega))).symm | exact (decide_eq_false (ne_len (by omega))).symm | exact (decide_eq_false (ne_at (by assumption) (by assumption) (mir_ne (by assumption)))).symm
      exact ⟨congrArg Value.bool e0, hb⟩

set_option maxHeartbeats 4000000 in
set_option maxRecDepth 100000 in
theorem c_furrowlaw09_sameBut (v_a : Value) (a : List (Mir)) (v_b : Value) (b : List (Mir)) (w : World) (p_a : Rd w encMir v_a a) (p_b : Rd w encMir v_b b) (ha : a.length ≤ 1073741824) (hb_ : b.length ≤ 1073741824) :
    Calls Tryd.prog 27 #[v_a, v_b] w (Ret fun v w' => v = (.bool (eqBare a b)) ∧ Below w.heap.size w w') := by
  refine enter (args := [v_a, v_b]) Tryd.func27 rfl (by kernel_rfl : _ = 27) (by kernel_rfl) ?_
  have hb := Below.refl w.heap.size w
  have hs : w.heap.size ≤ w.heap.size := Nat.le_refl _
  have in_p_a := p_a
  have in_p_b := p_b
  refine W_seq (W_region (L_as (L_nil (thenQ_normal (W_seq (W_seq (W_region (L_mv (L_len 35 27 (a).length v_a rfl Tryd.underlying35 (p_a).len (by kernel_rfl) (L_mv (L_len 35 27 (b).length v_b rfl Tryd.underlying35 (p_b).len (by kernel_rfl) (L_cmp .i64 (((a).length : Nat) : Int) (((b).length : Nat) : Int) ((a).length ≠ (b).length) rfl (cmpN_ne ((a).length) ((b).length)) (by kernel_rfl) (by kernel_rfl) ?_ ?_))))))))))))
  · intro h1
    replace h1 : (a).length ≠ (b).length := by omega
    refine L_nil (thenQ_normal (W_true (by kernel_rfl) (W_seq (W_region (L_as (L_nil (thenQ_normal (W_ret (thenQ_ret ?_)))))))))
    refine end_ret [.tmp 4] [(.bool false)] rfl rfl ⟨by kernel_rfl, trivial⟩ ?_
    have e0 : false = eqBare a b := by first | exact (decide_eq_true (bare_all i3 i2 (by omega))).symm | exact (decide_eq_false (bare_len (by omega))).symm | exact (decide_eq_false (bare_no (by assumption) (by assumption) (of_decide_eq_false (by assumption)))).symm
    exact ⟨congrArg Value.bool e0, hb⟩
  · intro h2
    replace h2 : (a).length = (b).length := by omega
    refine L_nil (thenQ_normal (W_false (by kernel_rfl) (W_skip (thenQ_normal (W_seq (W_seq (W_region (L_as (L_nil (thenQ_normal (W_block ?_)))))))))))
    refine W_loop (fun m s0 w0 => ∃ (i : Nat), (m = a.length - i) ∧ (s0.ds = []) ∧ (s0.f 0 = v_a) ∧ (s0.f 1 = v_b) ∧ (s0.f 5 = (.int .i64 ((i : Nat) : Int))) ∧ (Rd w0 encMir v_a a) ∧ (Rd w0 encMir v_b b) ∧ (Below w.heap.size w w0) ∧ (w.heap.size ≤ w0.heap.size) ∧ (i ≤ a.length) ∧ (a.length = b.length) ∧ ((a.map bareM).take i = (b.map bareM).take i)) _ ⟨0, rfl, by kernel_rfl, by kernel_rfl, by kernel_rfl, by kernel_rfl, p_a, p_b, hb, hs, (Nat.zero_le _), (by omega), rfl⟩ ?_
    rintro m3 s4 w5 ⟨i, hm, hds, f_0, f_1, f_5, p_a, p_b, hb, hs, i1, i2, i3⟩
    refine W_set 0 _ f_0 (W_set 1 _ f_1 (W_set 5 _ f_5 ?_))
    clear f_0 f_1 f_5
    refine W_seq (W_seq (W_region (L_mv (L_mv (L_len 35 27 (a).length v_a rfl Tryd.underlying35 (p_a).len (by kernel_rfl) (L_cmp .i64 ((i : Nat) : Int) (((a).length : Nat) : Int) (i < (a).length) rfl (cmpN_lt i ((a).length)) (by kernel_rfl) (by kernel_rfl) ?_ ?_))))))
    · intro h6
      replace h6 : i < (a).length := by omega
      refine L_nil (thenQ_normal (W_true (by kernel_rfl) (W_skip (thenQ_normal (W_seq (W_block (W_seq (W_quiet (by kernel_rfl) (by kernel_rfl) (Lq_mv (Lq_mv ?_))))))))))
      have hz := get_some a i (by omega); obtain ⟨x7, hx8⟩ := hz
      have hz := (p_a).at (k := 4) (fun _ => rfl) hx8
      obtain ⟨g9, off10, hl11, hc12⟩ := hz
      refine Lq_ixaddr (k := .i64) v_a i _ g9 off10 el35 hl11 (by omega) (by kernel_rfl) (by kernel_rfl) (Lq_loadA g9 (off10 + i * 4) [(.int .i64 x7.1), (.int .i32 x7.2.1), (.int .i32 x7.2.2.1), (.bool x7.2.2.2)] (by kernel_rfl) (fun _ => by kernel_rfl) (fun _ => by kernel_rfl) hc12 (Lq_mv (Lq_mv ?_)))
      have hz := get_some b i (by omega); obtain ⟨x13, hx14⟩ := hz
      have hz := (p_b).at (k := 4) (fun _ => rfl) hx14
      obtain ⟨g15, off16, hl17, hc18⟩ := hz
      refine Lq_ixaddr (k := .i64) v_b i _ g15 off16 el35 hl17 (by omega) (by kernel_rfl) (by kernel_rfl) (Lq_loadA g15 (off16 + i * 4) [(.int .i64 x13.1), (.int .i32 x13.2.1), (.int .i32 x13.2.2.1), (.bool x13.2.2.2)] (by kernel_rfl) (fun _ => by kernel_rfl) (fun _ => by kernel_rfl) hc18 (Lq_call 46 [(Value.agg #[(.int .i64 x7.1), (.int .i32 x7.2.1), (.int .i32 x7.2.2.1), (.bool x7.2.2.2)]), (Value.agg #[(.int .i64 x13.1), (.int .i32 x13.2.1), (.int .i32 x13.2.2.1), (.bool x13.2.2.2)])] (.bool (decide ((x7.2.1, x7.2.2.1, x7.2.2.2) = ((x13.2.1, x13.2.2.1, x13.2.2.2) : Int × Int × Bool)))) (fun _ _ => by kernel_rfl) (fun wq hbq => c_furrowref09_Same x7.1 x7.2.1 x7.2.2.1 x7.2.2.2 x13.1 x13.2.1 x13.2.2.1 x13.2.2.2 wq ) (Lq_put_split (decide ((x7.2.1, x7.2.2.1, x7.2.2.2) = ((x13.2.1, x13.2.2.1, x13.2.2.2) : Int × Int × Bool))) ?_ ?_)))
      · intro h19
        refine Lq_not true (by kernel_rfl) (Lq_nil ?_)
        intro w20 hB21
        replace hb := hb.trans (hB21.mono hs)
        replace hs := Nat.le_trans hs (hB21.size)
        replace p_a := p_a.below hB21
        replace p_b := p_b.below hB21
        refine thenQ_normal (W_false (by kernel_rfl) (W_skip (blkQ_normal (thenQ_normal (W_region (L_mv (L_addN i 1 (by omega) (by kernel_rfl) (by kernel_rfl) (L_as (L_nil ?_)))))))))
        refine thenQ_normal ⟨_, ?_, (i + 1), rfl, hds, by kernel_rfl, by kernel_rfl, by kernel_rfl, p_a, p_b, hb, hs, ?_, ?_, ?_⟩
        · omega
        · omega
        · exact i2
        · exact bare_step i3 (by assumption) (by assumption) (of_decide_eq_true (by assumption))
      · intro h22
        refine Lq_not false (by kernel_rfl) (Lq_nil ?_)
        intro w23 hB24
        replace hb := hb.trans (hB24.mono hs)
        replace hs := Nat.le_trans hs (hB24.size)
        replace p_a := p_a.below hB24
        replace p_b := p_b.below hB24
        refine thenQ_normal (W_true (by kernel_rfl) (W_seq (W_region (L_as (L_nil (thenQ_normal (W_ret (blkQ_ret (thenQ_ret (thenQ_ret (blkQ_ret (thenQ_ret ?_))))))))))))
        refine end_ret [.tmp 4] [(.bool false)] rfl hds ⟨by kernel_rfl, trivial⟩ ?_
        have e0 : false = eqBare a b := by first | exact (decide_eq_true (bare_all i3 i2 (by omega))).symm | exact (decide_eq_false (bare_len (by omega))).symm | exact (decide_eq_false (bare_no (by assumption) (by assumption) (of_decide_eq_false (by assumption)))).symm
        exact ⟨congrArg Value.bool e0, hb⟩
    · intro h25
      replace h25 : (a).length ≤ i := by omega
      refine L_nil (thenQ_normal (W_false (by kernel_rfl) (W_exit (thenQ_exit (thenQ_exit (blkQ_exit (thenQ_normal (W_seq (W_region (L_as (L_nil (thenQ_normal (W_ret ?_)))))))))))))
      refine end_ret [.tmp 4] [(.bool true)] rfl hds ⟨by kernel_rfl, trivial⟩ ?_
      have e0 : true = eqBare a b := by first | exact (decide_eq_true (bare_all i3 i2 (by omega))).symm | exact (decide_eq_false (bare_len (by omega))).symm | exact (decide_eq_false (bare_no (by assumption) (by assumption) (of_decide_eq_false (by assumption)))).symm
      exact ⟨congrArg Value.bool e0, hb⟩

set_option maxHeartbeats 4000000 in
set_option maxRecDepth 100000 in
theorem c_mirrors_Read_ok (f : List UInt8) (s : List UInt8) (w : World) (hs : s.length ≤ 33554432) (hok : (mreadF s).2.2 = 0) :
    Calls Tryd.prog 26 #[(S f), (S s)] w (Ret fun v w' => ∃ (q0 : Value), v = (.tuple #[q0, .nilIface]) ∧ Row w' w.heap.size 27 4 encMir q0 ((mreadF s).1) ∧ Below w.heap.size w w') := by
  refine enter (args := [(S f), (S s)]) Tryd.func26 rfl (by kernel_rfl : _ = 75) (by kernel_rfl) ?_
  have hb := Below.refl w.heap.size w
  have hs : w.heap.size ≤ w.heap.size := Nat.le_refl _
  refine W_seq (W_region (L_as (L_as (L_nil (thenQ_normal (W_seq (W_region (L_mv (L_mv ?_)))))))))
  by_cases hq1 : (badL (toldF s)).2 = 0
  · skip
    refine L_call 45 [(S f), (S s)] (by kernel_rfl) (by kernel_rfl) (c_lines_Read_ok f s _ (by first | omega | assumption | exact mcheck_lt (by assumption)) (by first | omega | assumption | exact mcheck_lt (by assumption))) ?_
    rintro _ w3 ⟨l6, q2, rfl, r_q2, hx7, hB4⟩
    replace r_q2 := r_q2.base hs
    replace hb := hb.trans (hB4.mono hs)
    replace hs := Nat.le_trans hs (hB4.size)
    refine L_mv (L_run q2 (by kernel_rfl) (by kernel_rfl) (L_run .nilIface (by kernel_rfl) (by kernel_rfl) (L_as (L_as (L_nil (thenQ_normal (W_seq (W_seq (W_region (L_mv (L_run (.bool false) (by kernel_rfl) (by kernel_rfl) (L_nil (thenQ_normal (W_false (by kernel_rfl) (W_skip (thenQ_normal (W_seq (W_region (L_as (L_nil (thenQ_normal (W_seq (W_seq (W_region (L_mv (L_len 87 25 (l6).length q2 rfl Tryd.underlying87 (r_q2.rd).len (by kernel_rfl) (L_mv (L_nil (thenQ_normal (W_block ?_))))))))))))))))))))))))))))))
    have hl := hx7
    have hfs := fs_len hl (by omega : s.length ≤ 1073741823)
    refine W_loop (fun m s0 w0 => ∃ (i : Nat) (acc : List Mir) (v_8 : Value), (m = l6.length - i) ∧ (s0.ds = []) ∧ (s0.f 0 = (S f)) ∧ (s0.f 24 = q2) ∧ (s0.f 25 = (.int .i64 (((l6).length : Nat) : Int))) ∧ (s0.f 8 = v_8) ∧ (s0.f 26 = (.int .i64 ((i : Nat) : Int))) ∧ (NRow 9 w0 w.heap.size 25 5 encLine q2 l6) ∧ (Row w0 w.heap.size 27 4 encMir v_8 acc) ∧ (Below w.heap.size w w0) ∧ (w.heap.size ≤ w0.heap.size) ∧ (i ≤ l6.length) ∧ (acc.length ≤ i) ∧ (goI s l6 i acc)) _ ⟨0, [], (.slice none 0 0), rfl, by kernel_rfl, by kernel_rfl, by kernel_rfl, by kernel_rfl, by kernel_rfl, by kernel_rfl, r_q2, Row.nil _ _ _ _ _, hb, hs, (Nat.zero_le _), (by simp), (go_zero (by assumption) hl)⟩ ?_
    rintro m8 s9 w10 ⟨i, acc, v_8, hm, hds, f_0, f_24, f_25, f_8, f_26, r_q2, r_8, hb, hs, i1, i2, i3⟩
    refine W_set 0 _ f_0 (W_set 24 _ f_24 (W_set 25 _ f_25 (W_set 8 _ f_8 (W_set 26 _ f_26 ?_))))
    clear f_0 f_24 f_25 f_8 f_26
    have hll := lines_len hl
    have htl := told_len s
    have hmc := mcheck_err acc
    have hml := mcheck_le acc
    refine W_seq (W_region (L_cmp .i64 ((i : Nat) : Int) (((l6).length : Nat) : Int) (i < (l6).length) rfl (cmpN_lt i ((l6).length)) (by kernel_rfl) (by kernel_rfl) ?_ ?_))
    · intro h11
      replace h11 : i < (l6).length := by omega
      refine L_nil (thenQ_normal (W_seq (W_true (by kernel_rfl) (W_skip (thenQ_normal (W_seq (W_block (W_seq (W_region ?_)))))))))
      have hz := get_some l6 i (by first | omega | assumption | exact mcheck_lt (by assumption)); obtain ⟨x12, hx13⟩ := hz
      have hz := (r_q2.rd).at (k := 5) (fun _ => rfl) hx13
      obtain ⟨g14, off15, hl16, hc17⟩ := hz
      have hff_x12 := scan_ok (by omega) hl hx13
      refine L_ixaddr (k := .i64) q2 i _ g14 off15 el87 hl16 (by first | omega | assumption | exact mcheck_lt (by assumption)) (by kernel_rfl) (by kernel_rfl) ?_
      have r_in19 : Row w10 w.heap.size 9 1 encStr (LineV.v x12) (LineV.fs x12) := r_q2.inner (List.mem_of_getElem? hx13)
      refine L_loadA g14 (off15 + i * 5) [(.int .i64 x12.1), (.int .u8 x12.2.1), (S x12.2.2.1), (LineV.v x12), (S x12.2.2.2.2)] (by kernel_rfl) (by kernel_rfl) (by kernel_rfl) hc17 (L_new (fun b => .pointer (some ⟨b, 0, none⟩)) (.cells [(.int .i64 0), (.int .u8 0), (S ([] : List UInt8)), (.slice none 0 0), (S ([] : List UInt8))].toArray 25 (0, 0)) (by kernel_rfl) (by kernel_rfl) ?_)
      intro b20 w21 hN22
      have g_x10 : w.heap.size ≤ b20 := by rw [hN22.num]; exact hs
      have nb_o_x10_r_q2 := r_q2.new_ne hN22
      replace hb := hb.trans (hN22.below.mono hs)
      replace hs := Nat.le_trans hs (hN22.below.size)
      replace r_q2 := r_q2.below hN22.below
      replace r_8 := r_8.below hN22.below
      replace r_in19 := r_in19.below hN22.below
      have o_x10 := hN22.here
      refine L_storeA b20 0 [(.int .i64 x12.1), (.int .u8 x12.2.1), (S x12.2.2.1), (LineV.v x12), (S x12.2.2.2.2)] [(.int .i64 0), (.int .u8 0), (S ([] : List UInt8)), (.slice none 0 0), (S ([] : List UInt8))] [(.int .i64 x12.1), (.int .u8 x12.2.1), (S x12.2.2.1), (LineV.v x12), (S x12.2.2.2.2)] 25 (by kernel_rfl) (by kernel_rfl) (allc rfl (allc rfl (allc rfl (allc r_in19.one (allc rfl rfl))))) (by kernel_rfl) o_x10 (by kernel_rfl) rfl ?_
      intro w23 hW24
      replace hb := hb.trans (hW24.below g_x10)
      replace hs := Nat.le_trans hs (Nat.le_of_eq hW24.size.symm)
      have n_r_q2 := r_q2.wrote hW24 nb_o_x10_r_q2
      have n_r_8 := r_8.wrote hW24 (r_8.ne o_x10 (by simp))
      have n_r_in19 := r_in19.wrote hW24 (r_in19.ne o_x10 (by simp))
      replace r_q2 := n_r_q2; clear n_r_q2
      replace r_8 := n_r_8; clear n_r_8
      replace r_in19 := n_r_in19; clear n_r_in19
      replace o_x10 := hW24.here
      refine L_nil (thenQ_normal (W_seq (W_seq (W_region (L_run (.pointer (some ⟨b20, 1, none⟩)) (by kernel_rfl) (by kernel_rfl) (L_load b20 1 (.int .u8 x12.2.1) (by kernel_rfl) (by kernel_rfl) (cell_obj o_x10 rfl) (L_cmp .u8 x12.2.1 0 (x12.2.1 = 0) rfl (cmp_eq x12.2.1 0) (by kernel_rfl) (by kernel_rfl) ?_ ?_)))))))
      · intro h25
        replace h25 : x12.2.1 = 0 := by omega
        refine L_mv (L_skip (by kernel_rfl) (L_skip (by kernel_rfl) (L_skip (by kernel_rfl) (L_pickT (by kernel_rfl) (L_nil (thenQ_normal (W_true (by kernel_rfl) (W_exit (thenQ_exit (blkQ_exit (thenQ_normal (W_region (L_addN i 1 (by omega) (by kernel_rfl) (by kernel_rfl) (L_mv (L_nil ?_)))))))))))))))
        refine thenQ_normal ⟨_, ?_, (i + 1), acc, v_8, rfl, hds, by kernel_rfl, by kernel_rfl, by kernel_rfl, by kernel_rfl, by kernel_rfl, r_q2, r_8, hb, hs, ?_, ?_, ?_⟩
        · omega
        · omega
        · first | omega | (simp only [List.length_append, List.length_cons, List.length_nil]; omega)
        · first | exact go_skip i3 (by assumption) (by omega) | exact go_on i3 (by assumption) (by omega) (by omega)
      · intro h26
        replace h26 : x12.2.1 ≠ 0 := by omega
        refine L_mv (L_want (by kernel_rfl) (L_run (.pointer (some ⟨b20, 1, none⟩)) (by kernel_rfl) (by kernel_rfl) (L_want (by kernel_rfl) (L_load b20 1 (.int .u8 x12.2.1) (by kernel_rfl) (by kernel_rfl) (cell_obj o_x10 rfl) (L_want (by kernel_rfl) (L_cmp .u8 x12.2.1 3 (x12.2.1 = 3) rfl (cmp_eq x12.2.1 3) (by kernel_rfl) (by kernel_rfl) ?_ ?_))))))
        · intro h27
          replace h27 : x12.2.1 = 3 := by omega
          refine L_pickF (by kernel_rfl) (L_nil (thenQ_normal (W_true (by kernel_rfl) (W_exit (thenQ_exit (blkQ_exit (thenQ_normal (W_region (L_addN i 1 (by omega) (by kernel_rfl) (by kernel_rfl) (L_mv (L_nil ?_)))))))))))
          refine thenQ_normal ⟨_, ?_, (i + 1), acc, v_8, rfl, hds, by kernel_rfl, by kernel_rfl, by kernel_rfl, by kernel_rfl, by kernel_rfl, r_q2, r_8, hb, hs, ?_, ?_, ?_⟩
          · omega
          · omega
          · first | omega | (simp only [List.length_append, List.length_cons, List.length_nil]; omega)
          · first | exact go_skip i3 (by assumption) (by omega) | exact go_on i3 (by assumption) (by omega) (by omega)
        · intro h28
          replace h28 : x12.2.1 ≠ 3 := by omega
          refine L_pickF (by kernel_rfl) (L_nil (thenQ_normal (W_false (by kernel_rfl) (W_skip (thenQ_normal (W_seq (W_region (L_loadA b20 0 [(.int .i64 x12.1), (.int .u8 x12.2.1), (S x12.2.2.1), (LineV.v x12), (S x12.2.2.2.2)] (by kernel_rfl) (by kernel_rfl) (by kernel_rfl) (cells_at o_x10 0 (by kernel_rfl)) (L_call 12 [(Value.agg #[(.int .i64 x12.1), (.int .u8 x12.2.1), (S x12.2.2.1), (LineV.v x12), (S x12.2.2.2.2)])] (by kernel_rfl) (by kernel_rfl) (c_mirrors_Scan x12.1 x12.2.1 x12.2.2.1 (LineV.v x12) (LineV.fs x12) x12.2.2.2.2 _ r_in19.rd (by exact (by assumption : _ ∧ _ ∧ _).1) (by exact (by assumption : _ ∧ _ ∧ _).2.1) (by exact (by assumption : _ ∧ _ ∧ _).2.2)) ?_)))))))))
          rintro _ w29 ⟨rfl, hB30⟩
          replace hb := hb.trans (hB30.mono hs)
          replace hs := Nat.le_trans hs (hB30.size)
          replace o_x10 := obj_below o_x10 hB30
          replace r_q2 := r_q2.below hB30
          replace r_8 := r_8.below hB30
          replace r_in19 := r_in19.below hB30
          have := mscan_err x12.1 x12.2.1 (LineV.fs x12) x12.2.2.2.2
          refine L_mv (L_run (Value.agg #[(.int .i64 ((mscanF x12.1 x12.2.1 (LineV.fs x12) x12.2.2.2.2).1.1)), (.int .i32 ((mscanF x12.1 x12.2.1 (LineV.fs x12) x12.2.2.2.2).1.2.1)), (.int .i32 ((mscanF x12.1 x12.2.1 (LineV.fs x12) x12.2.2.2.2).1.2.2.1)), (.bool ((mscanF x12.1 x12.2.1 (LineV.fs x12) x12.2.2.2.2).1.2.2.2))]) (by kernel_rfl) (by kernel_rfl) (L_run (.int .i64 ((mscanF x12.1 x12.2.1 (LineV.fs x12) x12.2.2.2.2).2)) (by kernel_rfl) (by kernel_rfl) (L_new (fun b => .pointer (some ⟨b, 0, none⟩)) (.cells [(.int .i64 0), (.int .i32 0), (.int .i32 0), (.bool false)].toArray 27 (0, 0)) (by kernel_rfl) (by kernel_rfl) ?_)))
          intro b32 w33 hN34
          have ne_x10_x11 : b20 ≠ b32 := by have := (obj_lt o_x10); have := hN34.num; omega
          have ne_x11_x10 := ne_x10_x11.symm
          have g_x11 : w.heap.size ≤ b32 := by rw [hN34.num]; exact hs
          have nb_o_x11_r_8 := r_8.new_ne hN34
          replace hb := hb.trans (hN34.below.mono hs)
          replace hs := Nat.le_trans hs (hN34.below.size)
          replace o_x10 := obj_below o_x10 hN34.below
          replace r_q2 := r_q2.below hN34.below
          replace r_8 := r_8.below hN34.below
          replace r_in19 := r_in19.below hN34.below
          have o_x11 := hN34.here
          refine L_storeA b32 0 [(.int .i64 ((mscanF x12.1 x12.2.1 (LineV.fs x12) x12.2.2.2.2).1.1)), (.int .i32 ((mscanF x12.1 x12.2.1 (LineV.fs x12) x12.2.2.2.2).1.2.1)), (.int .i32 ((mscanF x12.1 x12.2.1 (LineV.fs x12) x12.2.2.2.2).1.2.2.1)), (.bool ((mscanF x12.1 x12.2.1 (LineV.fs x12) x12.2.2.2.2).1.2.2.2))] [(.int .i64 0), (.int .i32 0), (.int .i32 0), (.bool false)] [(.int .i64 ((mscanF x12.1 x12.2.1 (LineV.fs x12) x12.2.2.2.2).1.1)), (.int .i32 ((mscanF x12.1 x12.2.1 (LineV.fs x12) x12.2.2.2.2).1.2.1)), (.int .i32 ((mscanF x12.1 x12.2.1 (LineV.fs x12) x12.2.2.2.2).1.2.2.1)), (.bool ((mscanF x12.1 x12.2.1 (LineV.fs x12) x12.2.2.2.2).1.2.2.2))] 27 (by kernel_rfl) (by kernel_rfl) rfl (by kernel_rfl) o_x11 (by kernel_rfl) rfl ?_
          intro w35 hW36
          replace hb := hb.trans (hW36.below g_x11)
          replace hs := Nat.le_trans hs (Nat.le_of_eq hW36.size.symm)
          have n_o_x10 := obj_wrote o_x10 hW36 (obj_ne o_x10 o_x11 (by simp))
          have n_r_q2 := r_q2.wrote hW36 (r_q2.ne o_x11 (by simp))
          have n_r_8 := r_8.wrote hW36 nb_o_x11_r_8
          have n_r_in19 := r_in19.wrote hW36 (r_in19.ne o_x11 (by simp))
          replace o_x10 := n_o_x10; clear n_o_x10
          replace r_q2 := n_r_q2; clear n_r_q2
          replace r_8 := n_r_8; clear n_r_8
          replace r_in19 := n_r_in19; clear n_r_in19
          replace o_x11 := hW36.here
          refine L_as (L_nil (thenQ_normal (W_seq (W_seq (W_region (L_mv (L_cmp .i64 ((mscanF x12.1 x12.2.1 (LineV.fs x12) x12.2.2.2.2).2) 0 ((mscanF x12.1 x12.2.1 (LineV.fs x12) x12.2.2.2.2).2 ≠ 0) rfl (cmp_ne ((mscanF x12.1 x12.2.1 (LineV.fs x12) x12.2.2.2.2).2) 0) (by kernel_rfl) (by kernel_rfl) ?_ ?_)))))))
          · intro h37
            replace h37 : (mscanF x12.1 x12.2.1 (LineV.fs x12) x12.2.2.2.2).2 ≠ 0 := by omega
            exfalso; rw [go_bad i3 (by assumption) (by omega) h37] at hok; exact h37 hok
          · intro h38
            replace h38 : (mscanF x12.1 x12.2.1 (LineV.fs x12) x12.2.2.2.2).2 = 0 := by omega
            refine L_nil (thenQ_normal (W_false (by kernel_rfl) (W_skip (thenQ_normal (W_region (L_mv (L_loadA b32 0 [(.int .i64 ((mscanF x12.1 x12.2.1 (LineV.fs x12) x12.2.2.2.2).1.1)), (.int .i32 ((mscanF x12.1 x12.2.1 (LineV.fs x12) x12.2.2.2.2).1.2.1)), (.int .i32 ((mscanF x12.1 x12.2.1 (LineV.fs x12) x12.2.2.2.2).1.2.2.1)), (.bool ((mscanF x12.1 x12.2.1 (LineV.fs x12) x12.2.2.2.2).1.2.2.2))] (by kernel_rfl) (by kernel_rfl) (by kernel_rfl) (cells_at o_x11 0 (by kernel_rfl)) (L_app el35 w.heap.size v_8 acc ((mscanF x12.1 x12.2.1 (LineV.fs x12) x12.2.2.2.2).1.1, (mscanF x12.1 x12.2.1 (LineV.fs x12) x12.2.2.2.2).1.2.1, (mscanF x12.1 x12.2.1 (LineV.fs x12) x12.2.2.2.2).1.2.2.1, (mscanF x12.1 x12.2.1 (LineV.fs x12) x12.2.2.2.2).1.2.2.2) hs r_8 (by omega) (by kernel_rfl) rfl rfl (by kernel_rfl) rfl (by kernel_rfl) (by kernel_rfl) ?_))))))))
            intro v39 w40 hr41 hg42 how43
            have nc_o_x11 := ownb_app how43 nb_o_x11_r_8 (obj_lt o_x11)
            replace hb := hb.grown hg42 hs (fun k hk => (World.ownsRow.lt r_8 k hk).1)
            replace hs := Nat.le_trans hs (hg42.size)
            have n_o_x10 := obj_grown o_x10 hg42 (r_8.ne o_x10 (by simp))
            have n_o_x11 := obj_grown o_x11 hg42 nb_o_x11_r_8
            have n_r_q2 := r_q2.grown hg42 (r_q2.apart r_8 (by kernel_rfl))
            have n_r_in19 := r_in19.grown hg42 (r_in19.apart r_8 (by kernel_rfl))
            replace o_x10 := n_o_x10; clear n_o_x10
            replace o_x11 := n_o_x11; clear n_o_x11
            replace r_q2 := n_r_q2; clear n_r_q2
            replace r_in19 := n_r_in19; clear n_r_in19
            have nb_o_x11_r_8 := nc_o_x11
            replace r_8 := hr41
            refine L_as (L_nil (blkQ_normal (thenQ_normal (W_region (L_addN i 1 (by omega) (by kernel_rfl) (by kernel_rfl) (L_mv (L_nil ?_)))))))
            refine thenQ_normal ⟨_, ?_, (i + 1), (acc ++ [((mscanF x12.1 x12.2.1 (LineV.fs x12) x12.2.2.2.2).1.1, (mscanF x12.1 x12.2.1 (LineV.fs x12) x12.2.2.2.2).1.2.1, (mscanF x12.1 x12.2.1 (LineV.fs x12) x12.2.2.2.2).1.2.2.1, (mscanF x12.1 x12.2.1 (LineV.fs x12) x12.2.2.2.2).1.2.2.2)]), v39, rfl, hds, by kernel_rfl, by kernel_rfl, by kernel_rfl, by kernel_rfl, by kernel_rfl, r_q2, r_8, hb, hs, ?_, ?_, ?_⟩
            · omega
            · omega
            · first | omega | (simp only [List.length_append, List.length_cons, List.length_nil]; omega)
            · first | exact go_skip i3 (by assumption) (by omega) | exact go_on i3 (by assumption) (by omega) (by omega)
    · intro h44
      replace h44 : (l6).length ≤ i := by omega
      refine L_nil (thenQ_normal (W_seq (W_false (by kernel_rfl) (W_exit (thenQ_exit (thenQ_exit (blkQ_exit (thenQ_normal (W_seq (W_seq (W_region (L_mv (L_call 22 [v_8] (by kernel_rfl) (by kernel_rfl) (c_mirrors_Check v_8 acc _ r_8.rd (by first | omega | assumption | exact mcheck_lt (by assumption))) ?_)))))))))))))
      rintro _ w45 ⟨rfl, hB46⟩
      replace hb := hb.trans (hB46.mono hs)
      replace hs := Nat.le_trans hs (hB46.size)
      replace r_q2 := r_q2.below hB46
      replace r_8 := r_8.below hB46
      have := mcheck_err acc
      have := mcheck_le acc
      refine L_mv (L_run (.int .i64 (((mcheckF acc).1 : Nat) : Int)) (by kernel_rfl) (by kernel_rfl) (L_run (.int .i64 ((mcheckF acc).2)) (by kernel_rfl) (by kernel_rfl) (L_as (L_as (L_nil (thenQ_normal (W_seq (W_region (L_mv (L_cmp .i64 ((mcheckF acc).2) 0 ((mcheckF acc).2 ≠ 0) rfl (cmp_ne ((mcheckF acc).2) 0) (by kernel_rfl) (by kernel_rfl) ?_ ?_))))))))))
      · intro h48
        replace h48 : (mcheckF acc).2 ≠ 0 := by omega
        exfalso; rw [go_check i3 (by omega) h48 (List.getElem?_eq_getElem (mcheck_lt h48))] at hok; exact h48 hok
      · intro h49
        replace h49 : (mcheckF acc).2 = 0 := by omega
        refine L_nil (thenQ_normal (W_false (by kernel_rfl) (W_skip (thenQ_normal (W_seq (W_region (L_mv (L_as (L_as (L_nil (thenQ_normal (W_ret ?_))))))))))))
        refine end_ret [.tmp 4, .tmp 5] [v_8, .nilIface] rfl hds ⟨by kernel_rfl, by kernel_rfl, trivial⟩ ?_
        have e51 : acc = (mreadF s).1 := by first | (rw [go_fine i3 (by omega) (by omega)]; done)
        exact ⟨v_8, tup2 (rfl) (rfl), r_8.cast e51, hb⟩
  · skip
    exfalso; exact hq1 (mr_ok1 hok)

set_option maxHeartbeats 4000000 in
set_option maxRecDepth 100000 in
theorem c_mirrors_Read_bad (f : List UInt8) (s : List UInt8) (w : World) (hs : s.length ≤ 33554432) (hbad : (mreadF s).2.2 ≠ 0) :
    Calls Tryd.prog 26 #[(S f), (S s)] w (Ret fun v w' => ∃ (cb0 : Nat), v = (.tuple #[(.slice none 0 0), (.iface 63 (.pointer (some ⟨cb0, 0, none⟩)))]) ∧ w'.heap[cb0]? = some (.cells [(S f), (.int .i64 ((mreadF s).2.1)), (.int .i64 ((mreadF s).2.2))].toArray 67 (0, 0)) ∧ w.heap.size ≤ cb0 ∧ Below w.heap.size w w') := by
  refine enter (args := [(S f), (S s)]) Tryd.func26 rfl (by kernel_rfl : _ = 75) (by kernel_rfl) ?_
  have hb := Below.refl w.heap.size w
  have hs : w.heap.size ≤ w.heap.size := Nat.le_refl _
  refine W_seq (W_region (L_as (L_as (L_nil (thenQ_normal (W_seq (W_region (L_mv (L_mv ?_)))))))))
  by_cases hq1 : (badL (toldF s)).2 = 0
  · skip
    refine L_call 45 [(S f), (S s)] (by kernel_rfl) (by kernel_rfl) (c_lines_Read_ok f s _ (by first | omega | assumption | exact mcheck_lt (by assumption)) (by first | omega | assumption | exact mcheck_lt (by assumption))) ?_
    rintro _ w3 ⟨l6, q2, rfl, r_q2, hx7, hB4⟩
    replace r_q2 := r_q2.base hs
    replace hb := hb.trans (hB4.mono hs)
    replace hs := Nat.le_trans hs (hB4.size)
    refine L_mv (L_run q2 (by kernel_rfl) (by kernel_rfl) (L_run .nilIface (by kernel_rfl) (by kernel_rfl) (L_as (L_as (L_nil (thenQ_normal (W_seq (W_seq (W_region (L_mv (L_run (.bool false) (by kernel_rfl) (by kernel_rfl) (L_nil (thenQ_normal (W_false (by kernel_rfl) (W_skip (thenQ_normal (W_seq (W_region (L_as (L_nil (thenQ_normal (W_seq (W_seq (W_region (L_mv (L_len 87 25 (l6).length q2 rfl Tryd.underlying87 (r_q2.rd).len (by kernel_rfl) (L_mv (L_nil (thenQ_normal (W_block ?_))))))))))))))))))))))))))))))
    have hl := hx7
    have hfs := fs_len hl (by omega : s.length ≤ 1073741823)
    refine W_loop (fun m s0 w0 => ∃ (i : Nat) (acc : List Mir) (v_8 : Value), (m = l6.length - i) ∧ (s0.ds = []) ∧ (s0.f 0 = (S f)) ∧ (s0.f 24 = q2) ∧ (s0.f 25 = (.int .i64 (((l6).length : Nat) : Int))) ∧ (s0.f 8 = v_8) ∧ (s0.f 26 = (.int .i64 ((i : Nat) : Int))) ∧ (NRow 9 w0 w.heap.size 25 5 encLine q2 l6) ∧ (Row w0 w.heap.size 27 4 encMir v_8 acc) ∧ (Below w.heap.size w w0) ∧ (w.heap.size ≤ w0.heap.size) ∧ (i ≤ l6.length) ∧ (acc.length ≤ i) ∧ (goI s l6 i acc)) _ ⟨0, [], (.slice none 0 0), rfl, by kernel_rfl, by kernel_rfl, by kernel_rfl, by kernel_rfl, by kernel_rfl, by kernel_rfl, r_q2, Row.nil _ _ _ _ _, hb, hs, (Nat.zero_le _), (by simp), (go_zero (by assumption) hl)⟩ ?_
    rintro m8 s9 w10 ⟨i, acc, v_8, hm, hds, f_0, f_24, f_25, f_8, f_26, r_q2, r_8, hb, hs, i1, i2, i3⟩
    refine W_set 0 _ f_0 (W_set 24 _ f_24 (W_set 25 _ f_25 (W_set 8 _ f_8 (W_set 26 _ f_26 ?_))))
    clear f_0 f_24 f_25 f_8 f_26
    have hll := lines_len hl
    have htl := told_len s
    have hmc := mcheck_err acc
    have hml := mcheck_le acc
    refine W_seq (W_region (L_cmp .i64 ((i : Nat) : Int) (((l6).length : Nat) : Int) (i < (l6).length) rfl (cmpN_lt i ((l6).length)) (by kernel_rfl) (by kernel_rfl) ?_ ?_))
    · intro h11
      replace h11 : i < (l6).length := by omega
      refine L_nil (thenQ_normal (W_seq (W_true (by kernel_rfl) (W_skip (thenQ_normal (W_seq (W_block (W_seq (W_region ?_)))))))))
      have hz := get_some l6 i (by first | omega | assumption | exact mcheck_lt (by assumption)); obtain ⟨x12, hx13⟩ := hz
      have hz := (r_q2.rd).at (k := 5) (fun _ => rfl) hx13
      obtain ⟨g14, off15, hl16, hc17⟩ := hz
      have hff_x12 := scan_ok (by omega) hl hx13
      refine L_ixaddr (k := .i64) q2 i _ g14 off15 el87 hl16 (by first | omega | assumption | exact mcheck_lt (by assumption)) (by kernel_rfl) (by kernel_rfl) ?_
      have r_in19 : Row w10 w.heap.size 9 1 encStr (LineV.v x12) (LineV.fs x12) := r_q2.inner (List.mem_of_getElem? hx13)
      refine L_loadA g14 (off15 + i * 5) [(.int .i64 x12.1), (.int .u8 x12.2.1), (S x12.2.2.1), (LineV.v x12), (S x12.2.2.2.2)] (by kernel_rfl) (by kernel_rfl) (by kernel_rfl) hc17 (L_new (fun b => .pointer (some ⟨b, 0, none⟩)) (.cells [(.int .i64 0), (.int .u8 0), (S ([] : List UInt8)), (.slice none 0 0), (S ([] : List UInt8))].toArray 25 (0, 0)) (by kernel_rfl) (by kernel_rfl) ?_)
      intro b20 w21 hN22
      have g_x10 : w.heap.size ≤ b20 := by rw [hN22.num]; exact hs
      have nb_o_x10_r_q2 := r_q2.new_ne hN22
      replace hb := hb.trans (hN22.below.mono hs)
      replace hs := Nat.le_trans hs (hN22.below.size)
      replace r_q2 := r_q2.below hN22.below
      replace r_8 := r_8.below hN22.below
      replace r_in19 := r_in19.below hN22.below
      have o_x10 := hN22.here
      refine L_storeA b20 0 [(.int .i64 x12.1), (.int .u8 x12.2.1), (S x12.2.2.1), (LineV.v x12), (S x12.2.2.2.2)] [(.int .i64 0), (.int .u8 0), (S ([] : List UInt8)), (.slice none 0 0), (S ([] : List UInt8))] [(.int .i64 x12.1), (.int .u8 x12.2.1), (S x12.2.2.1), (LineV.v x12), (S x12.2.2.2.2)] 25 (by kernel_rfl) (by kernel_rfl) (allc rfl (allc rfl (allc rfl (allc r_in19.one (allc rfl rfl))))) (by kernel_rfl) o_x10 (by kernel_rfl) rfl ?_
      intro w23 hW24
      replace hb := hb.trans (hW24.below g_x10)
      replace hs := Nat.le_trans hs (Nat.le_of_eq hW24.size.symm)
      have n_r_q2 := r_q2.wrote hW24 nb_o_x10_r_q2
      have n_r_8 := r_8.wrote hW24 (r_8.ne o_x10 (by simp))
      have n_r_in19 := r_in19.wrote hW24 (r_in19.ne o_x10 (by simp))
      replace r_q2 := n_r_q2; clear n_r_q2
      replace r_8 := n_r_8; clear n_r_8
      replace r_in19 := n_r_in19; clear n_r_in19
      replace o_x10 := hW24.here
      refine L_nil (thenQ_normal (W_seq (W_seq (W_region (L_run (.pointer (some ⟨b20, 1, none⟩)) (by kernel_rfl) (by kernel_rfl) (L_load b20 1 (.int .u8 x12.2.1) (by kernel_rfl) (by kernel_rfl) (cell_obj o_x10 rfl) (L_cmp .u8 x12.2.1 0 (x12.2.1 = 0) rfl (cmp_eq x12.2.1 0) (by kernel_rfl) (by kernel_rfl) ?_ ?_)))))))
      · intro h25
        replace h25 : x12.2.1 = 0 := by omega
        refine L_mv (L_skip (by kernel_rfl) (L_skip (by kernel_rfl) (L_skip (by kernel_rfl) (L_pickT (by kernel_rfl) (L_nil (thenQ_normal (W_true (by kernel_rfl) (W_exit (thenQ_exit (blkQ_exit (thenQ_normal (W_region (L_addN i 1 (by omega) (by kernel_rfl) (by kernel_rfl) (L_mv (L_nil ?_)))))))))))))))
        refine thenQ_normal ⟨_, ?_, (i + 1), acc, v_8, rfl, hds, by kernel_rfl, by kernel_rfl, by kernel_rfl, by kernel_rfl, by kernel_rfl, r_q2, r_8, hb, hs, ?_, ?_, ?_⟩
        · omega
        · omega
        · first | omega | (simp only [List.length_append, List.length_cons, List.length_nil]; omega)
        · first | exact go_skip i3 (by assumption) (by omega) | exact go_on i3 (by assumption) (by omega) (by omega)
      · intro h26
        replace h26 : x12.2.1 ≠ 0 := by omega
        refine L_mv (L_want (by kernel_rfl) (L_run (.pointer (some ⟨b20, 1, none⟩)) (by kernel_rfl) (by kernel_rfl) (L_want (by kernel_rfl) (L_load b20 1 (.int .u8 x12.2.1) (by kernel_rfl) (by kernel_rfl) (cell_obj o_x10 rfl) (L_want (by kernel_rfl) (L_cmp .u8 x12.2.1 3 (x12.2.1 = 3) rfl (cmp_eq x12.2.1 3) (by kernel_rfl) (by kernel_rfl) ?_ ?_))))))
        · intro h27
          replace h27 : x12.2.1 = 3 := by omega
          refine L_pickF (by kernel_rfl) (L_nil (thenQ_normal (W_true (by kernel_rfl) (W_exit (thenQ_exit (blkQ_exit (thenQ_normal (W_region (L_addN i 1 (by omega) (by kernel_rfl) (by kernel_rfl) (L_mv (L_nil ?_)))))))))))
          refine thenQ_normal ⟨_, ?_, (i + 1), acc, v_8, rfl, hds, by kernel_rfl, by kernel_rfl, by kernel_rfl, by kernel_rfl, by kernel_rfl, r_q2, r_8, hb, hs, ?_, ?_, ?_⟩
          · omega
          · omega
          · first | omega | (simp only [List.length_append, List.length_cons, List.length_nil]; omega)
          · first | exact go_skip i3 (by assumption) (by omega) | exact go_on i3 (by assumption) (by omega) (by omega)
        · intro h28
          replace h28 : x12.2.1 ≠ 3 := by omega
          refine L_pickF (by kernel_rfl) (L_nil (thenQ_normal (W_false (by kernel_rfl) (W_skip (thenQ_normal (W_seq (W_region (L_loadA b20 0 [(.int .i64 x12.1), (.int .u8 x12.2.1), (S x12.2.2.1), (LineV.v x12), (S x12.2.2.2.2)] (by kernel_rfl) (by kernel_rfl) (by kernel_rfl) (cells_at o_x10 0 (by kernel_rfl)) (L_call 12 [(Value.agg #[(.int .i64 x12.1), (.int .u8 x12.2.1), (S x12.2.2.1), (LineV.v x12), (S x12.2.2.2.2)])] (by kernel_rfl) (by kernel_rfl) (c_mirrors_Scan x12.1 x12.2.1 x12.2.2.1 (LineV.v x12) (LineV.fs x12) x12.2.2.2.2 _ r_in19.rd (by exact (by assumption : _ ∧ _ ∧ _).1) (by exact (by assumption : _ ∧ _ ∧ _).2.1) (by exact (by assumption : _ ∧ _ ∧ _).2.2)) ?_)))))))))
          rintro _ w29 ⟨rfl, hB30⟩
          replace hb := hb.trans (hB30.mono hs)
          replace hs := Nat.le_trans hs (hB30.size)
          replace o_x10 := obj_below o_x10 hB30
          replace r_q2 := r_q2.below hB30
          replace r_8 := r_8.below hB30
          replace r_in19 := r_in19.below hB30
          have := mscan_err x12.1 x12.2.1 (LineV.fs x12) x12.2.2.2.2
          refine L_mv (L_run (Value.agg #[(.int .i64 ((mscanF x12.1 x12.2.1 (LineV.fs x12) x12.2.2.2.2).1.1)), (.int .i32 ((mscanF x12.1 x12.2.1 (LineV.fs x12) x12.2.2.2.2).1.2.1)), (.int .i32 ((mscanF x12.1 x12.2.1 (LineV.fs x12) x12.2.2.2.2).1.2.2.1)), (.bool ((mscanF x12.1 x12.2.1 (LineV.fs x12) x12.2.2.2.2).1.2.2.2))]) (by kernel_rfl) (by kernel_rfl) (L_run (.int .i64 ((mscanF x12.1 x12.2.1 (LineV.fs x12) x12.2.2.2.2).2)) (by kernel_rfl) (by kernel_rfl) (L_new (fun b => .pointer (some ⟨b, 0, none⟩)) (.cells [(.int .i64 0), (.int .i32 0), (.int .i32 0), (.bool false)].toArray 27 (0, 0)) (by kernel_rfl) (by kernel_rfl) ?_)))
          intro b32 w33 hN34
          have ne_x10_x11 : b20 ≠ b32 := by have := (obj_lt o_x10); have := hN34.num; omega
          have ne_x11_x10 := ne_x10_x11.symm
          have g_x11 : w.heap.size ≤ b32 := by rw [hN34.num]; exact hs
          have nb_o_x11_r_8 := r_8.new_ne hN34
          replace hb := hb.trans (hN34.below.mono hs)
          replace hs := Nat.le_trans hs (hN34.below.size)
          replace o_x10 := obj_below o_x10 hN34.below
          replace r_q2 := r_q2.below hN34.below
          replace r_8 := r_8.below hN34.below
          replace r_in19 := r_in19.below hN34.below
          have o_x11 := hN34.here
          refine L_storeA b32 0 [(.int .i64 ((mscanF x12.1 x12.2.1 (LineV.fs x12) x12.2.2.2.2).1.1)), (.int .i32 ((mscanF x12.1 x12.2.1 (LineV.fs x12) x12.2.2.2.2).1.2.1)), (.int .i32 ((mscanF x12.1 x12.2.1 (LineV.fs x12) x12.2.2.2.2).1.2.2.1)), (.bool ((mscanF x12.1 x12.2.1 (LineV.fs x12) x12.2.2.2.2).1.2.2.2))] [(.int .i64 0), (.int .i32 0), (.int .i32 0), (.bool false)] [(.int .i64 ((mscanF x12.1 x12.2.1 (LineV.fs x12) x12.2.2.2.2).1.1)), (.int .i32 ((mscanF x12.1 x12.2.1 (LineV.fs x12) x12.2.2.2.2).1.2.1)), (.int .i32 ((mscanF x12.1 x12.2.1 (LineV.fs x12) x12.2.2.2.2).1.2.2.1)), (.bool ((mscanF x12.1 x12.2.1 (LineV.fs x12) x12.2.2.2.2).1.2.2.2))] 27 (by kernel_rfl) (by kernel_rfl) rfl (by kernel_rfl) o_x11 (by kernel_rfl) rfl ?_
          intro w35 hW36
          replace hb := hb.trans (hW36.below g_x11)
          replace hs := Nat.le_trans hs (Nat.le_of_eq hW36.size.symm)
          have n_o_x10 := obj_wrote o_x10 hW36 (obj_ne o_x10 o_x11 (by simp))
          have n_r_q2 := r_q2.wrote hW36 (r_q2.ne o_x11 (by simp))
          have n_r_8 := r_8.wrote hW36 nb_o_x11_r_8
          have n_r_in19 := r_in19.wrote hW36 (r_in19.ne o_x11 (by simp))
          replace o_x10 := n_o_x10; clear n_o_x10
          replace r_q2 := n_r_q2; clear n_r_q2
          replace r_8 := n_r_8; clear n_r_8
          replace r_in19 := n_r_in19; clear n_r_in19
          replace o_x11 := hW36.here
          refine L_as (L_nil (thenQ_normal (W_seq (W_seq (W_region (L_mv (L_cmp .i64 ((mscanF x12.1 x12.2.1 (LineV.fs x12) x12.2.2.2.2).2) 0 ((mscanF x12.1 x12.2.1 (LineV.fs x12) x12.2.2.2.2).2 ≠ 0) rfl (cmp_ne ((mscanF x12.1 x12.2.1 (LineV.fs x12) x12.2.2.2.2).2) 0) (by kernel_rfl) (by kernel_rfl) ?_ ?_)))))))
          · intro h37
            replace h37 : (mscanF x12.1 x12.2.1 (LineV.fs x12) x12.2.2.2.2).2 ≠ 0 := by omega
            refine L_nil (thenQ_normal (W_true (by kernel_rfl) (W_seq (W_draws 9 (by kernel_rfl) (by kernel_rfl) (by kernel_rfl) ?_))))
            intro w38 hB39
            replace hb := hb.trans (hB39.mono hs)
            replace hs := Nat.le_trans hs (hB39.size)
            replace o_x10 := obj_below o_x10 hB39
            replace o_x11 := obj_below o_x11 hB39
            replace r_q2 := r_q2.below hB39
            replace r_8 := r_8.below hB39
            replace r_in19 := r_in19.below hB39
            refine I_take 0 (S f) rfl (by kernel_rfl) (by kernel_rfl) (by kernel_rfl) (by kernel_rfl) (noPanic_then (noPanic_then (noPanic_blk (noPanic_then (noPanic_then (noPanic_blk (noPanic_then noPanic_end))))))) (by kernel_rfl) (fun _ => by kernel_rfl) ?_
            refine I_take 1 (.pointer (some ⟨b20, 0, none⟩)) rfl (by kernel_rfl) (by kernel_rfl) (by kernel_rfl) (by kernel_rfl) (noPanic_then (noPanic_then (noPanic_blk (noPanic_then (noPanic_then (noPanic_blk (noPanic_then noPanic_end))))))) (by kernel_rfl) (fun _ => by kernel_rfl) ?_
            refine I_take 3 (.int .i64 ((mscanF x12.1 x12.2.1 (LineV.fs x12) x12.2.2.2.2).2)) rfl (by kernel_rfl) (by kernel_rfl) (by kernel_rfl) (by kernel_rfl) (noPanic_then (noPanic_then (noPanic_blk (noPanic_then (noPanic_then (noPanic_blk (noPanic_then noPanic_end))))))) (by kernel_rfl) (fun _ => by kernel_rfl) ?_
            refine I_take 7 (.slice none 0 0) rfl (by kernel_rfl) (by kernel_rfl) (by kernel_rfl) (by kernel_rfl) (noPanic_then (noPanic_then (noPanic_blk (noPanic_then (noPanic_then (noPanic_blk (noPanic_then noPanic_end))))))) (by kernel_rfl) (fun _ => by kernel_rfl) ?_
            refine I_all1 2 (by kernel_rfl) ?_
            refine I_op 2 rfl ?_ rfl
            refine L_load b20 0 (.int .i64 x12.1) (by kernel_rfl) (by kernel_rfl) (cell_obj o_x10 rfl) (L_nil ?_)
            refine ⟨rfl, ?_⟩
            refine I_take 4 (Value.agg #[(S f), (.int .i64 x12.1), (.int .i64 ((mscanF x12.1 x12.2.1 (LineV.fs x12) x12.2.2.2.2).2))]) rfl (by kernel_rfl) (by kernel_rfl) (by kernel_rfl) (by kernel_rfl) (noPanic_then (noPanic_then (noPanic_blk (noPanic_then (noPanic_then (noPanic_blk (noPanic_then noPanic_end))))))) (by kernel_rfl) (fun _ => by kernel_rfl) ?_
            refine I_all1 5 (by kernel_rfl) ?_
            refine I_op 5 rfl ?_ rfl
            refine L_new (fun b => .pointer (some ⟨b, 0, none⟩)) (.cells [(S f), (.int .i64 x12.1), (.int .i64 ((mscanF x12.1 x12.2.1 (LineV.fs x12) x12.2.2.2.2).2))].toArray 67 (0, 0)) (by kernel_rfl) (by kernel_rfl) ?_
            intro b40 w41 hN42
            have ne_x10_x50 : b20 ≠ b40 := by have := (obj_lt o_x10); have := hN42.num; omega
            have ne_x50_x10 := ne_x10_x50.symm
            have ne_x11_x50 : b32 ≠ b40 := by have := (obj_lt o_x11); have := hN42.num; omega
            have ne_x50_x11 := ne_x11_x50.symm
            have g_x50 : w.heap.size ≤ b40 := by rw [hN42.num]; exact hs
            replace hb := hb.trans (hN42.below.mono hs)
            replace hs := Nat.le_trans hs (hN42.below.size)
            replace o_x10 := obj_below o_x10 hN42.below
            replace o_x11 := obj_below o_x11 hN42.below
            replace r_q2 := r_q2.below hN42.below
            replace r_8 := r_8.below hN42.below
            replace r_in19 := r_in19.below hN42.below
            have o_x50 := hN42.here
            refine L_nil ?_
            refine ⟨rfl, ?_⟩
            refine I_take 6 (.iface 63 (.pointer (some ⟨b40, 0, none⟩))) rfl (by kernel_rfl) (by kernel_rfl) (by kernel_rfl) (by kernel_rfl) (noPanic_then (noPanic_then (noPanic_blk (noPanic_then (noPanic_then (noPanic_blk (noPanic_then noPanic_end))))))) (by kernel_rfl) (fun _ => by kernel_rfl) ?_
            refine I_take 8 (.iface 63 (.pointer (some ⟨b40, 0, none⟩))) rfl (by kernel_rfl) (by kernel_rfl) (by kernel_rfl) (by kernel_rfl) (noPanic_then (noPanic_then (noPanic_blk (noPanic_then (noPanic_then (noPanic_blk (noPanic_then noPanic_end))))))) (by kernel_rfl) (fun _ => by kernel_rfl) ?_
            refine I_done (by kernel_rfl) ?_
            refine thenQ_normal (W_ret (thenQ_ret (blkQ_ret (thenQ_ret (thenQ_ret (blkQ_ret (thenQ_ret ?_)))))))
            refine end_ret [.tmp 4, .tmp 5] [(.slice none 0 0), (.iface 63 (.pointer (some ⟨b40, 0, none⟩)))] rfl hds ⟨by kernel_rfl, by kernel_rfl, trivial⟩ ?_
            have oE : w41.heap[b40]? = some (.cells [(S f), (.int .i64 ((mreadF s).2.1)), (.int .i64 ((mreadF s).2.2))].toArray 67 (0, 0)) := by first | exact o_x50 | (rw [mr_bad (by assumption)]; exact o_x50) | (rw [go_bad i3 (by assumption) (by omega) (by assumption)]; exact o_x50) | (rw [go_check i3 (by omega) (by assumption) (by assumption)]; exact o_x50)
            exact ⟨b40, tup2 (rfl) (rfl), oE, g_x50, hb⟩
          · intro h43
            replace h43 : (mscanF x12.1 x12.2.1 (LineV.fs x12) x12.2.2.2.2).2 = 0 := by omega
            refine L_nil (thenQ_normal (W_false (by kernel_rfl) (W_skip (thenQ_normal (W_region (L_mv (L_loadA b32 0 [(.int .i64 ((mscanF x12.1 x12.2.1 (LineV.fs x12) x12.2.2.2.2).1.1)), (.int .i32 ((mscanF x12.1 x12.2.1 (LineV.fs x12) x12.2.2.2.2).1.2.1)), (.int .i32 ((mscanF x12.1 x12.2.1 (LineV.fs x12) x12.2.2.2.2).1.2.2.1)), (.bool ((mscanF x12.1 x12.2.1 (LineV.fs x12) x12.2.2.2.2).1.2.2.2))] (by kernel_rfl) (by kernel_rfl) (by kernel_rfl) (cells_at o_x11 0 (by kernel_rfl)) (L_app el35 w.heap.size v_8 acc ((mscanF x12.1 x12.2.1 (LineV.fs x12) x12.2.2.2.2).1.1, (mscanF x12.1 x12.2.1 (LineV.fs x12) x12.2.2.2.2).1.2.1, (mscanF x12.1 x12.2.1 (LineV.fs x12) x12.2.2.2.2).1.2.2.1, (mscanF x12.1 x12.2.1 (LineV.fs x12) x12.2.2.2.2).1.2.2.2) hs r_8 (by omega) (by kernel_rfl) rfl rfl (by kernel_rfl) rfl (by kernel_rfl) (by kernel_rfl) ?_))))))))
            intro v44 w45 hr46 hg47 how48
            have nc_o_x11 := ownb_app how48 nb_o_x11_r_8 (obj_lt o_x11)
            replace hb := hb.grown hg47 hs (fun k hk => (World.ownsRow.lt r_8 k hk).1)
            replace hs := Nat.le_trans hs (hg47.size)
            have n_o_x10 := obj_grown o_x10 hg47 (r_8.ne o_x10 (by simp))
            have n_o_x11 := obj_grown o_x11 hg47 nb_o_x11_r_8
            have n_r_q2 := r_q2.grown hg47 (r_q2.apart r_8 (by kernel_rfl))
            have n_r_in19 := r_in19.grown hg47 (r_in19.apart r_8 (by kernel_rfl))
            replace o_x10 := n_o_x10; clear n_o_x10
            replace o_x11 := n_o_x11; clear n_o_x11
            replace r_q2 := n_r_q2; clear n_r_q2
            replace r_in19 := n_r_in19; clear n_r_in19
            have nb_o_x11_r_8 := nc_o_x11
            replace r_8 := hr46
            refine L_as (L_nil (blkQ_normal (thenQ_normal (W_region (L_addN i 1 (by omega) (by kernel_rfl) (by kernel_rfl) (L_mv (L_nil ?_)))))))
            refine thenQ_normal ⟨_, ?_, (i + 1), (acc ++ [((mscanF x12.1 x12.2.1 (LineV.fs x12) x12.2.2.2.2).1.1, (mscanF x12.1 x12.2.1 (LineV.fs x12) x12.2.2.2.2).1.2.1, (mscanF x12.1 x12.2.1 (LineV.fs x12) x12.2.2.2.2).1.2.2.1, (mscanF x12.1 x12.2.1 (LineV.fs x12) x12.2.2.2.2).1.2.2.2)]), v44, rfl, hds, by kernel_rfl, by kernel_rfl, by kernel_rfl, by kernel_rfl, by kernel_rfl, r_q2, r_8, hb, hs, ?_, ?_, ?_⟩
            · omega
            · omega
            · first | omega | (simp only [List.length_append, List.length_cons, List.length_nil]; omega)
            · first | exact go_skip i3 (by assumption) (by omega) | exact go_on i3 (by assumption) (by omega) (by omega)
    · intro h49
      replace h49 : (l6).length ≤ i := by omega
      refine L_nil (thenQ_normal (W_seq (W_false (by kernel_rfl) (W_exit (thenQ_exit (thenQ_exit (blkQ_exit (thenQ_normal (W_seq (W_seq (W_region (L_mv (L_call 22 [v_8] (by kernel_rfl) (by kernel_rfl) (c_mirrors_Check v_8 acc _ r_8.rd (by first | omega | assumption | exact mcheck_lt (by assumption))) ?_)))))))))))))
      rintro _ w50 ⟨rfl, hB51⟩
      replace hb := hb.trans (hB51.mono hs)
      replace hs := Nat.le_trans hs (hB51.size)
      replace r_q2 := r_q2.below hB51
      replace r_8 := r_8.below hB51
      have := mcheck_err acc
      have := mcheck_le acc
      refine L_mv (L_run (.int .i64 (((mcheckF acc).1 : Nat) : Int)) (by kernel_rfl) (by kernel_rfl) (L_run (.int .i64 ((mcheckF acc).2)) (by kernel_rfl) (by kernel_rfl) (L_as (L_as (L_nil (thenQ_normal (W_seq (W_region (L_mv (L_cmp .i64 ((mcheckF acc).2) 0 ((mcheckF acc).2 ≠ 0) rfl (cmp_ne ((mcheckF acc).2) 0) (by kernel_rfl) (by kernel_rfl) ?_ ?_))))))))))
      · intro h53
        replace h53 : (mcheckF acc).2 ≠ 0 := by omega
        refine L_nil (thenQ_normal (W_true (by kernel_rfl) (W_seq (W_draws 12 (by kernel_rfl) (by kernel_rfl) (by kernel_rfl) ?_))))
        intro w54 hB55
        replace hb := hb.trans (hB55.mono hs)
        replace hs := Nat.le_trans hs (hB55.size)
        replace r_q2 := r_q2.below hB55
        replace r_8 := r_8.below hB55
        refine I_take 0 (S f) rfl (by kernel_rfl) (by kernel_rfl) (by kernel_rfl) (by kernel_rfl) (noPanic_then (noPanic_then noPanic_end)) (by kernel_rfl) (fun _ => by kernel_rfl) ?_
        refine I_take 1 v_8 rfl (by kernel_rfl) (by kernel_rfl) (by kernel_rfl) (by kernel_rfl) (noPanic_then (noPanic_then noPanic_end)) (by kernel_rfl) (fun _ => by kernel_rfl) ?_
        refine I_take 2 (.int .i64 (((mcheckF acc).1 : Nat) : Int)) rfl (by kernel_rfl) (by kernel_rfl) (by kernel_rfl) (by kernel_rfl) (noPanic_then (noPanic_then noPanic_end)) (by kernel_rfl) (fun _ => by kernel_rfl) ?_
        refine I_take 6 (.int .i64 ((mcheckF acc).2)) rfl (by kernel_rfl) (by kernel_rfl) (by kernel_rfl) (by kernel_rfl) (noPanic_then (noPanic_then noPanic_end)) (by kernel_rfl) (fun _ => by kernel_rfl) ?_
        refine I_take 10 (.slice none 0 0) rfl (by kernel_rfl) (by kernel_rfl) (by kernel_rfl) (by kernel_rfl) (noPanic_then (noPanic_then noPanic_end)) (by kernel_rfl) (fun _ => by kernel_rfl) ?_
        refine I_all1 3 (by kernel_rfl) ?_
        refine I_op 3 rfl ?_ rfl
        have hz := get_some acc ((mcheckF acc).1) (by first | omega | assumption | exact mcheck_lt (by assumption)); obtain ⟨x56, hx57⟩ := hz
        have hz := (r_8.rd).at (k := 4) (fun _ => rfl) hx57
        obtain ⟨g58, off59, hl60, hc61⟩ := hz
        refine L_ixaddr (k := .i64) v_8 ((mcheckF acc).1) _ g58 off59 el35 hl60 (by first | omega | assumption | exact mcheck_lt (by assumption)) (by kernel_rfl) (by kernel_rfl) (L_nil ?_)
        refine ⟨rfl, ?_⟩
        refine I_take 4 (.pointer (some ⟨g58, (off59 + ((mcheckF acc).1) * 4), none⟩)) rfl (by kernel_rfl) (by kernel_rfl) (by kernel_rfl) (by kernel_rfl) (noPanic_then (noPanic_then noPanic_end)) (by kernel_rfl) (fun _ => by kernel_rfl) ?_
        refine I_all1 5 (by kernel_rfl) ?_
        refine I_op 5 rfl ?_ rfl
        refine L_load g58 (off59 + ((mcheckF acc).1) * 4) (.int .i64 x56.1) (by kernel_rfl) (by kernel_rfl) (hc61 0 _ rfl) (L_nil ?_)
        refine ⟨rfl, ?_⟩
        refine I_take 7 (Value.agg #[(S f), (.int .i64 x56.1), (.int .i64 ((mcheckF acc).2))]) rfl (by kernel_rfl) (by kernel_rfl) (by kernel_rfl) (by kernel_rfl) (noPanic_then (noPanic_then noPanic_end)) (by kernel_rfl) (fun _ => by kernel_rfl) ?_
        refine I_all1 8 (by kernel_rfl) ?_
        refine I_op 8 rfl ?_ rfl
        refine L_new (fun b => .pointer (some ⟨b, 0, none⟩)) (.cells [(S f), (.int .i64 x56.1), (.int .i64 ((mcheckF acc).2))].toArray 67 (0, 0)) (by kernel_rfl) (by kernel_rfl) ?_
        intro b62 w63 hN64
        have g_x72 : w.heap.size ≤ b62 := by rw [hN64.num]; exact hs
        replace hb := hb.trans (hN64.below.mono hs)
        replace hs := Nat.le_trans hs (hN64.below.size)
        replace r_q2 := r_q2.below hN64.below
        replace r_8 := r_8.below hN64.below
        have o_x72 := hN64.here
        refine L_nil ?_
        refine ⟨rfl, ?_⟩
        refine I_take 9 (.iface 63 (.pointer (some ⟨b62, 0, none⟩))) rfl (by kernel_rfl) (by kernel_rfl) (by kernel_rfl) (by kernel_rfl) (noPanic_then (noPanic_then noPanic_end)) (by kernel_rfl) (fun _ => by kernel_rfl) ?_
        refine I_take 11 (.iface 63 (.pointer (some ⟨b62, 0, none⟩))) rfl (by kernel_rfl) (by kernel_rfl) (by kernel_rfl) (by kernel_rfl) (noPanic_then (noPanic_then noPanic_end)) (by kernel_rfl) (fun _ => by kernel_rfl) ?_
        refine I_done (by kernel_rfl) ?_
        refine thenQ_normal (W_ret (thenQ_ret ?_))
        refine end_ret [.tmp 4, .tmp 5] [(.slice none 0 0), (.iface 63 (.pointer (some ⟨b62, 0, none⟩)))] rfl hds ⟨by kernel_rfl, by kernel_rfl, trivial⟩ ?_
        have oE : w63.heap[b62]? = some (.cells [(S f), (.int .i64 ((mreadF s).2.1)), (.int .i64 ((mreadF s).2.2))].toArray 67 (0, 0)) := by first | exact o_x72 | (rw [mr_bad (by assumption)]; exact o_x72) | (rw [go_bad i3 (by assumption) (by omega) (by assumption)]; exact o_x72) | (rw [go_check i3 (by omega) (by assumption) (by assumption)]; exact o_x72)
        exact ⟨b62, tup2 (rfl) (rfl), oE, g_x72, hb⟩
      · intro h65
        replace h65 : (mcheckF acc).2 = 0 := by omega
        exfalso; rw [go_fine i3 (by omega) h65] at hbad; exact hbad rfl
  · skip
    refine L_call 45 [(S f), (S s)] (by kernel_rfl) (by kernel_rfl) (c_lines_Read_bad f s _ (by first | omega | assumption | exact mcheck_lt (by assumption)) (by first | omega | assumption | exact mcheck_lt (by assumption))) ?_
    rintro _ w66 ⟨cb69, rfl, o_cb69, g_cb69, hB67⟩
    replace g_cb69 := Nat.le_trans hs g_cb69
    replace hb := hb.trans (hB67.mono hs)
    replace hs := Nat.le_trans hs (hB67.size)
    refine L_mv (L_run (.slice none 0 0) (by kernel_rfl) (by kernel_rfl) (L_run (.iface 63 (.pointer (some ⟨cb69, 0, none⟩))) (by kernel_rfl) (by kernel_rfl) (L_as (L_as (L_nil (thenQ_normal (W_seq (W_seq (W_region (L_mv (L_run (.bool true) (by kernel_rfl) (by kernel_rfl) (L_nil (thenQ_normal (W_true (by kernel_rfl) (W_seq (W_region (L_mv (L_as (L_as (L_nil (thenQ_normal (W_ret (thenQ_ret ?_)))))))))))))))))))))))
    refine end_ret [.tmp 4, .tmp 5] [(.slice none 0 0), (.iface 63 (.pointer (some ⟨cb69, 0, none⟩)))] rfl rfl ⟨by kernel_rfl, by kernel_rfl, trivial⟩ ?_
    have oE : w66.heap[cb69]? = some (.cells [(S f), (.int .i64 ((mreadF s).2.1)), (.int .i64 ((mreadF s).2.2))].toArray 67 (0, 0)) := by first | exact o_cb69 | (rw [mr_bad (by assumption)]; exact o_cb69) | (rw [go_bad i3 (by assumption) (by omega) (by assumption)]; exact o_cb69) | (rw [go_check i3 (by omega) (by assumption) (by assumption)]; exact o_cb69)
    exact ⟨cb69, tup2 (rfl) (rfl), oE, g_cb69, hb⟩


end Go.Proofs.YtjdcmeoiommglaaDoor
