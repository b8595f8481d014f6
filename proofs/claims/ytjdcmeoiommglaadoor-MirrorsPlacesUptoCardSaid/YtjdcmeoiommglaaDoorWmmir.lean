/- Walks, written by my program walk.py out of the specification mmir.py: each theorem says what one function returns and that it leaves memory as it was. -/
import Derived.Test.YtjdcmeoiommglaaDoorPMir
import Derived.Test.YtjdcmeoiommglaaDoorWllines
import Derived.Test.YtjdcmeoiommglaaDoorWlscan
import Derived.Test.YtjdcmeoiommglaaDoorWlread
import Derived.Test.YtjdcmeoiommglaaDoorWlref
import Derived.Test.YtjdcmeoiommglaaDoorWmcor
import Derived.Test.YtjdcmeoiommglaaDoorFKi
import Derived.Test.YtjdcmeoiommglaaDoorProg
import Derived.Tactics2
namespace Go.Proofs.YtjdcmeoiommglaaDoor
open Go Go.RowKit Go.FK
set_option linter.unusedVariables false
set_option linter.unusedSimpArgs false

theorem eqagg27 (a0 : Int) (a1 : Int) (a2 : Int) (a3 : Bool) (c0 : Int) (c1 : Int) (c2 : Int) (c3 : Bool) (w : World) : (Op.equalIn 10000 27 (.agg #[.int .i64 a0, .int .i32 a1, .int .i32 a2, .bool a3]) (.agg #[.int .i64 c0, .int .i32 c1, .int .i32 c2, .bool c3])).run Tryd.prog w = .ok (a0 == c0 && a1 == c1 && a2 == c2 && a3 == c3) w := by
  have hS : Tryd.prog.underlying 27 = some (.struct (Tryd.prog.fieldsOf 27)) := by kernel_rfl
  have hp : Tryd.prog.stoodInHeld 27 = false := by kernel_rfl
  rw [show (10000 : Nat) = 9999 + 1 from rfl, run_equalIn_agg w 9999 27 _ _ hS hp]
  simp only [Program.fieldsOf, Tryd.underlying27]
  have isAgg3 := Tryd.isAgg3
  have sizeOf3 := Tryd.sizeOf3
  have underlying3 := Tryd.underlying3
  have isAgg4 := Tryd.isAgg4
  have sizeOf4 := Tryd.sizeOf4
  have underlying4 := Tryd.underlying4
  have isAgg21 := Tryd.isAgg21
  have sizeOf21 := Tryd.sizeOf21
  have underlying21 := Tryd.underlying21
  try simp only [S]
  go_simp
  by_cases h0 : a0 = c0 <;> by_cases h1 : a1 = c1 <;> by_cases h2 : a2 = c2 <;> by_cases h3 : a3 = c3 <;> simp [h0, h1, h2, h3]

theorem el35 : Elem Tryd.prog 35 27 4 24 := ⟨Tryd.underlying35, by kernel_rfl, rfl⟩
set_option maxHeartbeats 4000000 in
set_option maxRecDepth 100000 in
theorem c_mirrors_point (r : Int) (w : World) :
    Calls Tryd.prog 41 #[(.int .i32 r)] w (Ret fun v w' => v = (.bool (ptB r)) ∧ Below w.heap.size w w') := by
  refine enter (args := [(.int .i32 r)]) Tryd.func41 rfl (by kernel_rfl : _ = 9) (by kernel_rfl) ?_
  have hb := Below.refl w.heap.size w
  have hs : w.heap.size ≤ w.heap.size := Nat.le_refl _
  refine W_seq (W_region (L_as (L_nil (thenQ_normal (W_seq (W_region (L_mv (L_cmp .i32 r 0 (0 ≤ r) rfl (cmp_ge r 0) (by kernel_rfl) (by kernel_rfl) ?_ ?_))))))))
  · intro h1
    replace h1 : 0 ≤ r := by omega
    refine L_mv (L_want (by kernel_rfl) (L_mv (L_want (by kernel_rfl) (L_cmp .i32 r 1114111 (r ≤ 1114111) rfl (cmp_le r 1114111) (by kernel_rfl) (by kernel_rfl) ?_ ?_))))
    · intro h2
      replace h2 : r ≤ 1114111 := by omega
      refine L_pickT (by kernel_rfl) (L_as (L_nil (thenQ_normal (W_ret ?_))))
      refine end_ret [.tmp 2] [(.bool true)] rfl rfl ⟨by kernel_rfl, trivial⟩ ?_
      have e0 : true = ptB r := by exact (pt_yes (by omega) (by omega)).symm
      exact ⟨congrArg Value.bool e0, hb⟩
    · intro h3
      replace h3 : 1114111 < r := by omega
      refine L_pickT (by kernel_rfl) (L_as (L_nil (thenQ_normal (W_ret ?_))))
      refine end_ret [.tmp 2] [(.bool false)] rfl rfl ⟨by kernel_rfl, trivial⟩ ?_
      have e0 : false = ptB r := by exact (pt_no (.inr (by omega))).symm
      exact ⟨congrArg Value.bool e0, hb⟩
  · intro h4
    replace h4 : r < 0 := by omega
    refine L_mv (L_skip (by kernel_rfl) (L_skip (by kernel_rfl) (L_pickF (by kernel_rfl) (L_as (L_nil (thenQ_normal (W_ret ?_)))))))
    refine end_ret [.tmp 2] [(.bool false)] rfl rfl ⟨by kernel_rfl, trivial⟩ ?_
    have e0 : false = ptB r := by exact (pt_no (.inl (by omega))).symm
    exact ⟨congrArg Value.bool e0, hb⟩

set_option maxHeartbeats 4000000 in
set_option maxRecDepth 100000 in
theorem c_furrowref09_point (r : Int) (w : World) :
    Calls Tryd.prog 42 #[(.int .i32 r)] w (Ret fun v w' => v = (.bool (ptB r)) ∧ Below w.heap.size w w') := by
  refine enter (args := [(.int .i32 r)]) Tryd.func42 rfl (by kernel_rfl : _ = 9) (by kernel_rfl) ?_
  have hb := Below.refl w.heap.size w
  have hs : w.heap.size ≤ w.heap.size := Nat.le_refl _
  refine W_seq (W_region (L_as (L_nil (thenQ_normal (W_seq (W_region (L_mv (L_cmp .i32 r 0 (0 ≤ r) rfl (cmp_ge r 0) (by kernel_rfl) (by kernel_rfl) ?_ ?_))))))))
  · intro h1
    replace h1 : 0 ≤ r := by omega
    refine L_mv (L_want (by kernel_rfl) (L_mv (L_want (by kernel_rfl) (L_cmp .i32 r 1114111 (r ≤ 1114111) rfl (cmp_le r 1114111) (by kernel_rfl) (by kernel_rfl) ?_ ?_))))
    · intro h2
      replace h2 : r ≤ 1114111 := by omega
      refine L_pickT (by kernel_rfl) (L_as (L_nil (thenQ_normal (W_ret ?_))))
      refine end_ret [.tmp 2] [(.bool true)] rfl rfl ⟨by kernel_rfl, trivial⟩ ?_
      have e0 : true = ptB r := by exact (pt_yes (by omega) (by omega)).symm
      exact ⟨congrArg Value.bool e0, hb⟩
    · intro h3
      replace h3 : 1114111 < r := by omega
      refine L_pickT (by kernel_rfl) (L_as (L_nil (thenQ_normal (W_ret ?_))))
      refine end_ret [.tmp 2] [(.bool false)] rfl rfl ⟨by kernel_rfl, trivial⟩ ?_
      have e0 : false = ptB r := by exact (pt_no (.inr (by omega))).symm
      exact ⟨congrArg Value.bool e0, hb⟩
  · intro h4
    replace h4 : r < 0 := by omega
    refine L_mv (L_skip (by kernel_rfl) (L_skip (by kernel_rfl) (L_pickF (by kernel_rfl) (L_as (L_nil (thenQ_normal (W_ret ?_)))))))
    refine end_ret [.tmp 2] [(.bool false)] rfl rfl ⟨by kernel_rfl, trivial⟩ ?_
    have e0 : false = ptB r := by exact (pt_no (.inl (by omega))).symm
    exact ⟨congrArg Value.bool e0, hb⟩

set_option maxHeartbeats 4000000 in
set_option maxRecDepth 100000 in
theorem c_mirrors_Scan (no : Int) (k : Int) (m : List UInt8) (v_f : Value) (f : List (List UInt8)) (t : List UInt8) (w : World) (p_f : Rd w encStr v_f f) (hf : ∀ x ∈ f, x.length ≤ 1073741824) (ht : t.length ≤ 1073741824) (hn : f.length ≤ 1073741824) :
    Calls Tryd.prog 12 #[(Value.agg #[(.int .i64 no), (.int .u8 k), (S m), v_f, (S t)])] w (Ret fun v w' => v = (.tuple #[(Value.agg #[(.int .i64 ((mscanF no k f t).1.1)), (.int .i32 ((mscanF no k f t).1.2.1)), (.int .i32 ((mscanF no k f t).1.2.2.1)), (.bool ((mscanF no k f t).1.2.2.2))]), (.int .i64 ((mscanF no k f t).2))]) ∧ Below w.heap.size w w') := by
  refine enter (args := [(Value.agg #[(.int .i64 no), (.int .u8 k), (S m), v_f, (S t)])]) Tryd.func12 rfl (by kernel_rfl : _ = 53) (by kernel_rfl) ?_
  have hb := Below.refl w.heap.size w
  have hs : w.heap.size ≤ w.heap.size := Nat.le_refl _
  have in_p_f := p_f
  refine W_seq (W_region (L_new (fun b => .pointer (some ⟨b, 0, none⟩)) (.cells [(.int .i64 no), (.int .u8 k), (S m), v_f, (S t)].toArray 25 (0, 0)) (by kernel_rfl) (by kernel_rfl) ?_))
  intro b1 w2 hN3
  have g_x1 : w.heap.size ≤ b1 := by rw [hN3.num]; exact hs
  replace hb := hb.trans (hN3.below.mono hs)
  replace hs := Nat.le_trans hs (hN3.below.size)
  replace p_f := p_f.below hN3.below
  have o_x1 := hN3.here
  refine L_new (fun b => .pointer (some ⟨b, 0, none⟩)) (.cells [(.int .i64 0), (.int .i32 0), (.int .i32 0), (.bool false)].toArray 27 (0, 0)) (by kernel_rfl) (by kernel_rfl) ?_
  intro b4 w5 hN6
  have ne_x1_x2 : b1 ≠ b4 := by have := (obj_lt o_x1); have := hN6.num; omega
  have ne_x2_x1 := ne_x1_x2.symm
  have g_x2 : w.heap.size ≤ b4 := by rw [hN6.num]; exact hs
  replace hb := hb.trans (hN6.below.mono hs)
  replace hs := Nat.le_trans hs (hN6.below.size)
  replace o_x1 := obj_below o_x1 hN6.below
  replace p_f := p_f.below hN6.below
  have o_x2 := hN6.here
  refine L_as (L_nil (thenQ_normal (W_seq (W_seq (W_region (L_run (.pointer (some ⟨b1, 1, none⟩)) (by kernel_rfl) (by kernel_rfl) (L_load b1 1 (.int .u8 k) (by kernel_rfl) (by kernel_rfl) (cell_obj o_x1 rfl) (L_cmp .u8 k 2 (k = 2) rfl (cmp_eq k 2) (by kernel_rfl) (by kernel_rfl) ?_ ?_))))))))
  · intro h7
    replace h7 : k = 2 := by omega
    refine L_nil (thenQ_normal (W_true (by kernel_rfl) (W_seq (W_region (L_run (Value.agg #[(.int .i64 0), (.int .i32 0), (.int .i32 0), (.bool false)]) (by kernel_rfl) (by kernel_rfl) (L_storeA b4 0 [(.int .i64 0), (.int .i32 0), (.int .i32 0), (.bool false)] [(.int .i64 0), (.int .i32 0), (.int .i32 0), (.bool false)] [(.int .i64 0), (.int .i32 0), (.int .i32 0), (.bool false)] 27 (by kernel_rfl) (by kernel_rfl) rfl (by kernel_rfl) o_x2 (by kernel_rfl) rfl ?_))))))
    intro w8 hW9
    replace hb := hb.trans (hW9.below g_x2)
    replace hs := Nat.le_trans hs (Nat.le_of_eq hW9.size.symm)
    have n_o_x1 := obj_wrote o_x1 hW9 (obj_ne o_x1 o_x2 (by simp))
    have n_p_f := in_p_f.below hb
    replace o_x1 := n_o_x1; clear n_o_x1
    replace p_f := n_p_f; clear n_p_f
    replace o_x2 := hW9.here
    refine L_as (L_nil (thenQ_normal (W_ret (thenQ_ret ?_))))
    refine end_ret [.cell 2 27, .tmp 3] [(Value.agg #[(.int .i64 0), (.int .i32 0), (.int .i32 0), (.bool false)]), (.int .i64 33)] rfl rfl ⟨⟨⟨b4, 0, none⟩, by kernel_rfl, load_agg [(.int .i64 0), (.int .i32 0), (.int .i32 0), (.bool false)] (by kernel_rfl) (by kernel_rfl) (cells_obj o_x2)⟩, by kernel_rfl, trivial⟩ ?_
    have hE : ((Value.agg #[(.int .i64 0), (.int .i32 0), (.int .i32 0), (.bool false)]) = (Value.agg #[(.int .i64 ((mscanF no k f t).1.1)), (.int .i32 ((mscanF no k f t).1.2.1)), (.int .i32 ((mscanF no k f t).1.2.2.1)), (.bool ((mscanF no k f t).1.2.2.2))])) ∧ ((33 : Int) = (mscanF no k f t).2) := ⟨(by (rw [ms_order (by assumption)]; first | done | rfl | omega)), (by (rw [ms_order (by assumption)]; first | done | rfl | omega))⟩
    exact ⟨tup2 (hE.1) (congrArg (Value.int .i64) hE.2), hb⟩
  · intro h10
    replace h10 : k ≠ 2 := by omega
    refine L_nil (thenQ_normal (W_false (by kernel_rfl) (W_skip (thenQ_normal (W_seq (W_seq (W_region (L_run (.pointer (some ⟨b1, 1, none⟩)) (by kernel_rfl) (by kernel_rfl) (L_load b1 1 (.int .u8 k) (by kernel_rfl) (by kernel_rfl) (cell_obj o_x1 rfl) (L_cmp .u8 k 1 (k ≠ 1) rfl (cmp_ne k 1) (by kernel_rfl) (by kernel_rfl) ?_ ?_))))))))))
    · intro h11
      replace h11 : k ≠ 1 := by omega
      refine L_mv (L_skip (by kernel_rfl) (L_skip (by kernel_rfl) (L_skip (by kernel_rfl) (L_skip (by kernel_rfl) (L_pickT (by kernel_rfl) (L_nil (thenQ_normal (W_true (by kernel_rfl) (W_seq (W_region (L_run (Value.agg #[(.int .i64 0), (.int .i32 0), (.int .i32 0), (.bool false)]) (by kernel_rfl) (by kernel_rfl) (L_storeA b4 0 [(.int .i64 0), (.int .i32 0), (.int .i32 0), (.bool false)] [(.int .i64 0), (.int .i32 0), (.int .i32 0), (.bool false)] [(.int .i64 0), (.int .i32 0), (.int .i32 0), (.bool false)] 27 (by kernel_rfl) (by kernel_rfl) rfl (by kernel_rfl) o_x2 (by kernel_rfl) rfl ?_))))))))))))
      intro w12 hW13
      replace hb := hb.trans (hW13.below g_x2)
      replace hs := Nat.le_trans hs (Nat.le_of_eq hW13.size.symm)
      have n_o_x1 := obj_wrote o_x1 hW13 (obj_ne o_x1 o_x2 (by simp))
      have n_p_f := in_p_f.below hb
      replace o_x1 := n_o_x1; clear n_o_x1
      replace p_f := n_p_f; clear n_p_f
      replace o_x2 := hW13.here
      refine L_as (L_nil (thenQ_normal (W_ret (thenQ_ret ?_))))
      refine end_ret [.cell 2 27, .tmp 3] [(Value.agg #[(.int .i64 0), (.int .i32 0), (.int .i32 0), (.bool false)]), (.int .i64 60)] rfl rfl ⟨⟨⟨b4, 0, none⟩, by kernel_rfl, load_agg [(.int .i64 0), (.int .i32 0), (.int .i32 0), (.bool false)] (by kernel_rfl) (by kernel_rfl) (cells_obj o_x2)⟩, by kernel_rfl, trivial⟩ ?_
      have hE : ((Value.agg #[(.int .i64 0), (.int .i32 0), (.int .i32 0), (.bool false)]) = (Value.agg #[(.int .i64 ((mscanF no k f t).1.1)), (.int .i32 ((mscanF no k f t).1.2.1)), (.int .i32 ((mscanF no k f t).1.2.2.1)), (.bool ((mscanF no k f t).1.2.2.2))])) ∧ ((60 : Int) = (mscanF no k f t).2) := ⟨(by (rw [ms_cells (by assumption) (.inl (by assumption))]; first | done | rfl | omega)), (by (rw [ms_cells (by assumption) (.inl (by assumption))]; first | done | rfl | omega))⟩
      exact ⟨tup2 (hE.1) (congrArg (Value.int .i64) hE.2), hb⟩
    · intro h14
      replace h14 : k = 1 := by omega
      refine L_mv (L_want (by kernel_rfl) (L_run (.pointer (some ⟨b1, 3, none⟩)) (by kernel_rfl) (by kernel_rfl) (L_want (by kernel_rfl) (L_load b1 3 v_f (by kernel_rfl) (by kernel_rfl) (cell_obj o_x1 rfl) (L_want (by kernel_rfl) (L_len 23 9 (f).length v_f rfl Tryd.underlying23 (p_f).len (by kernel_rfl) (L_want (by kernel_rfl) (L_cmp .i64 (((f).length : Nat) : Int) ((2 : Nat) : Int) ((f).length ≠ 2) rfl (cmpN_ne ((f).length) 2) (by kernel_rfl) (by kernel_rfl) ?_ ?_))))))))
      · intro h15
        replace h15 : (f).length ≠ 2 := by omega
        refine L_pickF (by kernel_rfl) (L_nil (thenQ_normal (W_true (by kernel_rfl) (W_seq (W_region (L_run (Value.agg #[(.int .i64 0), (.int .i32 0), (.int .i32 0), (.bool false)]) (by kernel_rfl) (by kernel_rfl) (L_storeA b4 0 [(.int .i64 0), (.int .i32 0), (.int .i32 0), (.bool false)] [(.int .i64 0), (.int .i32 0), (.int .i32 0), (.bool false)] [(.int .i64 0), (.int .i32 0), (.int .i32 0), (.bool false)] 27 (by kernel_rfl) (by kernel_rfl) rfl (by kernel_rfl) o_x2 (by kernel_rfl) rfl ?_)))))))
        intro w16 hW17
        replace hb := hb.trans (hW17.below g_x2)
        replace hs := Nat.le_trans hs (Nat.le_of_eq hW17.size.symm)
        have n_o_x1 := obj_wrote o_x1 hW17 (obj_ne o_x1 o_x2 (by simp))
        have n_p_f := in_p_f.below hb
        replace o_x1 := n_o_x1; clear n_o_x1
        replace p_f := n_p_f; clear n_p_f
        replace o_x2 := hW17.here
        refine L_as (L_nil (thenQ_normal (W_ret (thenQ_ret ?_))))
        refine end_ret [.cell 2 27, .tmp 3] [(Value.agg #[(.int .i64 0), (.int .i32 0), (.int .i32 0), (.bool false)]), (.int .i64 60)] rfl rfl ⟨⟨⟨b4, 0, none⟩, by kernel_rfl, load_agg [(.int .i64 0), (.int .i32 0), (.int .i32 0), (.bool false)] (by kernel_rfl) (by kernel_rfl) (cells_obj o_x2)⟩, by kernel_rfl, trivial⟩ ?_
        have hE : ((Value.agg #[(.int .i64 0), (.int .i32 0), (.int .i32 0), (.bool false)]) = (Value.agg #[(.int .i64 ((mscanF no k f t).1.1)), (.int .i32 ((mscanF no k f t).1.2.1)), (.int .i32 ((mscanF no k f t).1.2.2.1)), (.bool ((mscanF no k f t).1.2.2.2))])) ∧ ((60 : Int) = (mscanF no k f t).2) := ⟨(by (rw [ms_cells (by assumption) (.inr (by omega))]; first | done | rfl | omega)), (by (rw [ms_cells (by assumption) (.inr (by omega))]; first | done | rfl | omega))⟩
        exact ⟨tup2 (hE.1) (congrArg (Value.int .i64) hE.2), hb⟩
      · intro h18
        replace h18 : (f).length = 2 := by omega
        refine L_pickF (by kernel_rfl) (L_nil (thenQ_normal (W_false (by kernel_rfl) (W_skip (thenQ_normal (W_seq (W_region (L_run (.pointer (some ⟨b1, 3, none⟩)) (by kernel_rfl) (by kernel_rfl) (L_load b1 3 v_f (by kernel_rfl) (by kernel_rfl) (cell_obj o_x1 rfl) ?_)))))))))
        have hz := get_some f 0 (by omega); obtain ⟨x19, hx20⟩ := hz
        have hz := (p_f).at (k := 1) (fun _ => rfl) hx20
        obtain ⟨g21, off22, hl23, hc24⟩ := hz
        have hxl_x19 := hf _ (List.mem_of_getElem? hx20)
        have hex_x19 := hexF_err x19
        refine L_ixaddr (k := .i64) v_f 0 _ g21 off22 el23 hl23 (by omega) (by kernel_rfl) (by kernel_rfl) (L_load g21 (off22 + 0 * 1) (S x19) (by kernel_rfl) (by kernel_rfl) (hc24 0 _ rfl) (L_call 28 [(S x19)] (by kernel_rfl) (by kernel_rfl) (c_points_Hex x19 _ (by omega)) ?_))
        rintro _ w25 ⟨rfl, hB26⟩
        replace hb := hb.trans (hB26.mono hs)
        replace hs := Nat.le_trans hs (hB26.size)
        replace o_x1 := obj_below o_x1 hB26
        replace o_x2 := obj_below o_x2 hB26
        replace p_f := p_f.below hB26
        refine L_mv (L_run (.int .i32 ((hexF x19).1)) (by kernel_rfl) (by kernel_rfl) (L_run (.int .i64 ((hexF x19).2)) (by kernel_rfl) (by kernel_rfl) (L_as (L_as (L_nil (thenQ_normal (W_seq (W_seq (W_region (L_mv (L_cmp .i64 ((hexF x19).2) 0 ((hexF x19).2 ≠ 0) rfl (cmp_ne ((hexF x19).2) 0) (by kernel_rfl) (by kernel_rfl) ?_ ?_)))))))))))
        · intro h28
          replace h28 : (hexF x19).2 ≠ 0 := by omega
          refine L_nil (thenQ_normal (W_true (by kernel_rfl) (W_seq (W_region (L_run (Value.agg #[(.int .i64 0), (.int .i32 0), (.int .i32 0), (.bool false)]) (by kernel_rfl) (by kernel_rfl) (L_mv (L_storeA b4 0 [(.int .i64 0), (.int .i32 0), (.int .i32 0), (.bool false)] [(.int .i64 0), (.int .i32 0), (.int .i32 0), (.bool false)] [(.int .i64 0), (.int .i32 0), (.int .i32 0), (.bool false)] 27 (by kernel_rfl) (by kernel_rfl) rfl (by kernel_rfl) o_x2 (by kernel_rfl) rfl ?_)))))))
          intro w29 hW30
          replace hb := hb.trans (hW30.below g_x2)
          replace hs := Nat.le_trans hs (Nat.le_of_eq hW30.size.symm)
          have n_o_x1 := obj_wrote o_x1 hW30 (obj_ne o_x1 o_x2 (by simp))
          have n_p_f := in_p_f.below hb
          replace o_x1 := n_o_x1; clear n_o_x1
          replace p_f := n_p_f; clear n_p_f
          replace o_x2 := hW30.here
          refine L_as (L_nil (thenQ_normal (W_ret (thenQ_ret ?_))))
          refine end_ret [.cell 2 27, .tmp 3] [(Value.agg #[(.int .i64 0), (.int .i32 0), (.int .i32 0), (.bool false)]), (.int .i64 ((hexF x19).2))] rfl rfl ⟨⟨⟨b4, 0, none⟩, by kernel_rfl, load_agg [(.int .i64 0), (.int .i32 0), (.int .i32 0), (.bool false)] (by kernel_rfl) (by kernel_rfl) (cells_obj o_x2)⟩, by kernel_rfl, trivial⟩ ?_
          have hE : ((Value.agg #[(.int .i64 0), (.int .i32 0), (.int .i32 0), (.bool false)]) = (Value.agg #[(.int .i64 ((mscanF no k f t).1.1)), (.int .i32 ((mscanF no k f t).1.2.1)), (.int .i32 ((mscanF no k f t).1.2.2.1)), (.bool ((mscanF no k f t).1.2.2.2))])) ∧ (((hexF x19).2 : Int) = (mscanF no k f t).2) := ⟨(by (rw [ms_hexA (by omega) (by omega) (by assumption) (by assumption)]; first | done | rfl | omega)), (by (rw [ms_hexA (by omega) (by omega) (by assumption) (by assumption)]; first | done | rfl | omega))⟩
          exact ⟨tup2 (hE.1) (congrArg (Value.int .i64) hE.2), hb⟩
        · intro h31
          replace h31 : (hexF x19).2 = 0 := by omega
          refine L_nil (thenQ_normal (W_false (by kernel_rfl) (W_skip (thenQ_normal (W_seq (W_region (L_run (.pointer (some ⟨b1, 3, none⟩)) (by kernel_rfl) (by kernel_rfl) (L_load b1 3 v_f (by kernel_rfl) (by kernel_rfl) (cell_obj o_x1 rfl) ?_))))))))
          have hz := get_some f 1 (by omega); obtain ⟨x32, hx33⟩ := hz
          have hz := (p_f).at (k := 1) (fun _ => rfl) hx33
          obtain ⟨g34, off35, hl36, hc37⟩ := hz
          have hxl_x32 := hf _ (List.mem_of_getElem? hx33)
          have hex_x32 := hexF_err x32
          refine L_ixaddr (k := .i64) v_f 1 _ g34 off35 el23 hl36 (by omega) (by kernel_rfl) (by kernel_rfl) (L_load g34 (off35 + 1 * 1) (S x32) (by kernel_rfl) (by kernel_rfl) (hc37 0 _ rfl) (L_call 28 [(S x32)] (by kernel_rfl) (by kernel_rfl) (c_points_Hex x32 _ (by omega)) ?_))
          rintro _ w38 ⟨rfl, hB39⟩
          replace hb := hb.trans (hB39.mono hs)
          replace hs := Nat.le_trans hs (hB39.size)
          replace o_x1 := obj_below o_x1 hB39
          replace o_x2 := obj_below o_x2 hB39
          replace p_f := p_f.below hB39
          refine L_mv (L_run (.int .i32 ((hexF x32).1)) (by kernel_rfl) (by kernel_rfl) (L_run (.int .i64 ((hexF x32).2)) (by kernel_rfl) (by kernel_rfl) (L_as (L_as (L_nil (thenQ_normal (W_seq (W_seq (W_region (L_mv (L_cmp .i64 ((hexF x32).2) 0 ((hexF x32).2 ≠ 0) rfl (cmp_ne ((hexF x32).2) 0) (by kernel_rfl) (by kernel_rfl) ?_ ?_)))))))))))
          · intro h41
            replace h41 : (hexF x32).2 ≠ 0 := by omega
            refine L_nil (thenQ_normal (W_true (by kernel_rfl) (W_seq (W_region (L_run (Value.agg #[(.int .i64 0), (.int .i32 0), (.int .i32 0), (.bool false)]) (by kernel_rfl) (by kernel_rfl) (L_mv (L_storeA b4 0 [(.int .i64 0), (.int .i32 0), (.int .i32 0), (.bool false)] [(.int .i64 0), (.int .i32 0), (.int .i32 0), (.bool false)] [(.int .i64 0), (.int .i32 0), (.int .i32 0), (.bool false)] 27 (by kernel_rfl) (by kernel_rfl) rfl (by kernel_rfl) o_x2 (by kernel_rfl) rfl ?_)))))))
            intro w42 hW43
            replace hb := hb.trans (hW43.below g_x2)
            replace hs := Nat.le_trans hs (Nat.le_of_eq hW43.size.symm)
            have n_o_x1 := obj_wrote o_x1 hW43 (obj_ne o_x1 o_x2 (by simp))
            have n_p_f := in_p_f.below hb
            replace o_x1 := n_o_x1; clear n_o_x1
            replace p_f := n_p_f; clear n_p_f
            replace o_x2 := hW43.here
            refine L_as (L_nil (thenQ_normal (W_ret (thenQ_ret ?_))))
            refine end_ret [.cell 2 27, .tmp 3] [(Value.agg #[(.int .i64 0), (.int .i32 0), (.int .i32 0), (.bool false)]), (.int .i64 ((hexF x32).2))] rfl rfl ⟨⟨⟨b4, 0, none⟩, by kernel_rfl, load_agg [(.int .i64 0), (.int .i32 0), (.int .i32 0), (.bool false)] (by kernel_rfl) (by kernel_rfl) (cells_obj o_x2)⟩, by kernel_rfl, trivial⟩ ?_
            have hE : ((Value.agg #[(.int .i64 0), (.int .i32 0), (.int .i32 0), (.bool false)]) = (Value.agg #[(.int .i64 ((mscanF no k f t).1.1)), (.int .i32 ((mscanF no k f t).1.2.1)), (.int .i32 ((mscanF no k f t).1.2.2.1)), (.bool ((mscanF no k f t).1.2.2.2))])) ∧ (((hexF x32).2 : Int) = (mscanF no k f t).2) := ⟨(by (rw [ms_hex (by omega) (by omega) (by assumption) (by assumption) (.inr (by assumption))]; first | done | rfl | omega)), (by (rw [ms_hex (by omega) (by omega) (by assumption) (by assumption) (.inr (by assumption))]; first | done | rfl | omega))⟩
            exact ⟨tup2 (hE.1) (congrArg (Value.int .i64) hE.2), hb⟩
          · intro h44
            replace h44 : (hexF x32).2 = 0 := by omega
            refine L_nil (thenQ_normal (W_false (by kernel_rfl) (W_skip (thenQ_normal (W_seq (W_draws 10 (by kernel_rfl) (by kernel_rfl) (by kernel_rfl) ?_))))))
            intro w45 hB46
            replace hb := hb.trans (hB46.mono hs)
            replace hs := Nat.le_trans hs (hB46.size)
            replace o_x1 := obj_below o_x1 hB46
            replace o_x2 := obj_below o_x2 hB46
            replace p_f := p_f.below hB46
            refine I_take 0 (.pointer (some ⟨b1, 0, none⟩)) rfl (by kernel_rfl) (by kernel_rfl) (by kernel_rfl) (by kernel_rfl) (noPanic_then noPanic_end) (by kernel_rfl) (fun _ => by kernel_rfl) ?_
            refine I_take 2 (.int .i32 ((hexF x19).1)) rfl (by kernel_rfl) (by kernel_rfl) (by kernel_rfl) (by kernel_rfl) (noPanic_then noPanic_end) (by kernel_rfl) (fun _ => by kernel_rfl) ?_
            refine I_take 3 (.int .i32 ((hexF x32).1)) rfl (by kernel_rfl) (by kernel_rfl) (by kernel_rfl) (by kernel_rfl) (noPanic_then noPanic_end) (by kernel_rfl) (fun _ => by kernel_rfl) ?_
            refine I_take 4 (.pointer (some ⟨b1, 4, none⟩)) rfl (by kernel_rfl) (by kernel_rfl) (by kernel_rfl) (by kernel_rfl) (noPanic_then noPanic_end) (by kernel_rfl) (fun _ => by kernel_rfl) ?_
            refine I_all2 1 5 (by kernel_rfl) ?_ ?_
            · skip
              refine I_op 1 rfl ?_ rfl
              refine L_load b1 0 (.int .i64 no) (by kernel_rfl) (by kernel_rfl) (cell_obj o_x1 rfl) (L_nil ?_)
              refine ⟨rfl, ?_⟩
              refine I_all1 5 (by kernel_rfl) ?_
              refine I_op 5 rfl ?_ rfl
              refine L_load b1 4 (S t) (by kernel_rfl) (by kernel_rfl) (cell_obj o_x1 rfl) (L_nil ?_)
              refine ⟨rfl, ?_⟩
              refine I_all1 6 (by kernel_rfl) ?_
              refine I_op 6 rfl ?_ rfl
              refine L_call 29 [(S t), (S ([91, 66, 69, 83, 84, 32, 70, 73, 84, 93] : List UInt8))] (by kernel_rfl) (by kernel_rfl) (c_strings_HasPrefix t ([91, 66, 69, 83, 84, 32, 70, 73, 84, 93] : List UInt8) _ ) ?_
              rintro _ w47 ⟨rfl, hB48⟩
              replace hb := hb.trans (hB48.mono hs)
              replace hs := Nat.le_trans hs (hB48.size)
              replace o_x1 := obj_below o_x1 hB48
              replace o_x2 := obj_below o_x2 hB48
              replace p_f := p_f.below hB48
              refine put_split (hpB t ([91, 66, 69, 83, 84, 32, 70, 73, 84, 93] : List UInt8)) ?_ ?_
              · intro h50
                refine L_nil ?_
                refine ⟨rfl, ?_⟩
                refine I_take 7 (Value.agg #[(.int .i64 no), (.int .i32 ((hexF x19).1)), (.int .i32 ((hexF x32).1)), (.bool true)]) rfl (by kernel_rfl) (by kernel_rfl) (by kernel_rfl) (by kernel_rfl) (noPanic_then noPanic_end) (by kernel_rfl) (fun _ => by kernel_rfl) ?_
                refine I_all1 8 (by kernel_rfl) ?_
                refine I_op 8 rfl ?_ rfl
                refine L_storeA b4 0 [(.int .i64 no), (.int .i32 ((hexF x19).1)), (.int .i32 ((hexF x32).1)), (.bool true)] [(.int .i64 0), (.int .i32 0), (.int .i32 0), (.bool false)] [(.int .i64 no), (.int .i32 ((hexF x19).1)), (.int .i32 ((hexF x32).1)), (.bool true)] 27 (by kernel_rfl) (by kernel_rfl) rfl (by kernel_rfl) o_x2 (by kernel_rfl) rfl ?_
                intro w51 hW52
                replace hb := hb.trans (hW52.below g_x2)
                replace hs := Nat.le_trans hs (Nat.le_of_eq hW52.size.symm)
                have n_o_x1 := obj_wrote o_x1 hW52 (obj_ne o_x1 o_x2 (by simp))
                have n_p_f := in_p_f.below hb
                replace o_x1 := n_o_x1; clear n_o_x1
                replace p_f := n_p_f; clear n_p_f
                replace o_x2 := hW52.here
                refine L_nil ?_
                refine ⟨rfl, ?_⟩
                refine I_take 9 (.int .i64 0) rfl (by kernel_rfl) (by kernel_rfl) (by kernel_rfl) (by kernel_rfl) (noPanic_then noPanic_end) (by kernel_rfl) (fun _ => by kernel_rfl) ?_
                refine I_done (by kernel_rfl) ?_
                refine thenQ_normal (W_ret ?_)
                refine end_ret [.cell 2 27, .tmp 3] [(Value.agg #[(.int .i64 no), (.int .i32 ((hexF x19).1)), (.int .i32 ((hexF x32).1)), (.bool true)]), (.int .i64 0)] rfl rfl ⟨⟨⟨b4, 0, none⟩, by kernel_rfl, load_agg [(.int .i64 no), (.int .i32 ((hexF x19).1)), (.int .i32 ((hexF x32).1)), (.bool true)] (by kernel_rfl) (by kernel_rfl) (cells_obj o_x2)⟩, by kernel_rfl, trivial⟩ ?_
                have hE : ((Value.agg #[(.int .i64 no), (.int .i32 ((hexF x19).1)), (.int .i32 ((hexF x32).1)), (.bool true)]) = (Value.agg #[(.int .i64 ((mscanF no k f t).1.1)), (.int .i32 ((mscanF no k f t).1.2.1)), (.int .i32 ((mscanF no k f t).1.2.2.1)), (.bool ((mscanF no k f t).1.2.2.2))])) ∧ ((0 : Int) = (mscanF no k f t).2) := ⟨(by (rw [ms_ok (by omega) (by omega) (by assumption) (by assumption) (by assumption) (by assumption)]; first | done | (rw [(by assumption : hpB t bestT = true)]; first | done | rfl) | (rw [(by assumption : hpB t bestT = false)]; first | done | rfl) | rfl)), (by (rw [ms_ok (by omega) (by omega) (by assumption) (by assumption) (by assumption) (by assumption)]; first | done | (rw [(by assumption : hpB t bestT = true)]; first | done | rfl) | (rw [(by assumption : hpB t bestT = false)]; first | done | rfl) | rfl))⟩
                exact ⟨tup2 (hE.1) (congrArg (Value.int .i64) hE.2), hb⟩
              · intro h53
                refine L_nil ?_
                refine ⟨rfl, ?_⟩
                refine I_take 7 (Value.agg #[(.int .i64 no), (.int .i32 ((hexF x19).1)), (.int .i32 ((hexF x32).1)), (.bool false)]) rfl (by kernel_rfl) (by kernel_rfl) (by kernel_rfl) (by kernel_rfl) (noPanic_then noPanic_end) (by kernel_rfl) (fun _ => by kernel_rfl) ?_
                refine I_all1 8 (by kernel_rfl) ?_
                refine I_op 8 rfl ?_ rfl
                refine L_storeA b4 0 [(.int .i64 no), (.int .i32 ((hexF x19).1)), (.int .i32 ((hexF x32).1)), (.bool false)] [(.int .i64 0), (.int .i32 0), (.int .i32 0), (.bool false)] [(.int .i64 no), (.int .i32 ((hexF x19).1)), (.int .i32 ((hexF x32).1)), (.bool false)] 27 (by kernel_rfl) (by kernel_rfl) rfl (by kernel_rfl) o_x2 (by kernel_rfl) rfl ?_
                intro w54 hW55
                replace hb := hb.trans (hW55.below g_x2)
                replace hs := Nat.le_trans hs (Nat.le_of_eq hW55.size.symm)
                have n_o_x1 := obj_wrote o_x1 hW55 (obj_ne o_x1 o_x2 (by simp))
                have n_p_f := in_p_f.below hb
                replace o_x1 := n_o_x1; clear n_o_x1
                replace p_f := n_p_f; clear n_p_f
                replace o_x2 := hW55.here
                refine L_nil ?_
                refine ⟨rfl, ?_⟩
                refine I_take 9 (.int .i64 0) rfl (by kernel_rfl) (by kernel_rfl) (by kernel_rfl) (by kernel_rfl) (noPanic_then noPanic_end) (by kernel_rfl) (fun _ => by kernel_rfl) ?_
                refine I_done (by kernel_rfl) ?_
                refine thenQ_normal (W_ret ?_)
                refine end_ret [.cell 2 27, .tmp 3] [(Value.agg #[(.int .i64 no), (.int .i32 ((hexF x19).1)), (.int .i32 ((hexF x32).1)), (.bool false)]), (.int .i64 0)] rfl rfl ⟨⟨⟨b4, 0, none⟩, by kernel_rfl, load_agg [(.int .i64 no), (.int .i32 ((hexF x19).1)), (.int .i32 ((hexF x32).1)), (.bool false)] (by kernel_rfl) (by kernel_rfl) (cells_obj o_x2)⟩, by kernel_rfl, trivial⟩ ?_
                have hE : ((Value.agg #[(.int .i64 no), (.int .i32 ((hexF x19).1)), (.int .i32 ((hexF x32).1)), (.bool false)]) = (Value.agg #[(.int .i64 ((mscanF no k f t).1.1)), (.int .i32 ((mscanF no k f t).1.2.1)), (.int .i32 ((mscanF no k f t).1.2.2.1)), (.bool ((mscanF no k f t).1.2.2.2))])) ∧ ((0 : Int) = (mscanF no k f t).2) := ⟨(by (rw [ms_ok (by omega) (by omega) (by assumption) (by assumption) (by assumption) (by assumption)]; first | done | (rw [(by assumption : hpB t bestT = true)]; first | done | rfl) | (rw [(by assumption : hpB t bestT = false)]; first | done | rfl) | rfl)), (by (rw [ms_ok (by omega) (by omega) (by assumption) (by assumption) (by assumption) (by assumption)]; first | done | (rw [(by assumption : hpB t bestT = true)]; first | done | rfl) | (rw [(by assumption : hpB t bestT = false)]; first | done | rfl) | rfl))⟩
                exact ⟨tup2 (hE.1) (congrArg (Value.int .i64) hE.2), hb⟩
            · skip
              refine I_op 5 rfl ?_ rfl
              refine L_load b1 4 (S t) (by kernel_rfl) (by kernel_rfl) (cell_obj o_x1 rfl) (L_nil ?_)
              refine ⟨rfl, ?_⟩
              refine I_all2 1 6 (by kernel_rfl) ?_ ?_
              · skip
                refine I_op 1 rfl ?_ rfl
                refine L_load b1 0 (.int .i64 no) (by kernel_rfl) (by kernel_rfl) (cell_obj o_x1 rfl) (L_nil ?_)
                refine ⟨rfl, ?_⟩
                refine I_all1 6 (by kernel_rfl) ?_
                refine I_op 6 rfl ?_ rfl
                refine L_call 29 [(S t), (S ([91, 66, 69, 83, 84, 32, 70, 73, 84, 93] : List UInt8))] (by kernel_rfl) (by kernel_rfl) (c_strings_HasPrefix t ([91, 66, 69, 83, 84, 32, 70, 73, 84, 93] : List UInt8) _ ) ?_
                rintro _ w56 ⟨rfl, hB57⟩
                replace hb := hb.trans (hB57.mono hs)
                replace hs := Nat.le_trans hs (hB57.size)
                replace o_x1 := obj_below o_x1 hB57
                replace o_x2 := obj_below o_x2 hB57
                replace p_f := p_f.below hB57
                refine put_split (hpB t ([91, 66, 69, 83, 84, 32, 70, 73, 84, 93] : List UInt8)) ?_ ?_
                · intro h59
                  refine L_nil ?_
                  refine ⟨rfl, ?_⟩
                  refine I_take 7 (Value.agg #[(.int .i64 no), (.int .i32 ((hexF x19).1)), (.int .i32 ((hexF x32).1)), (.bool true)]) rfl (by kernel_rfl) (by kernel_rfl) (by kernel_rfl) (by kernel_rfl) (noPanic_then noPanic_end) (by kernel_rfl) (fun _ => by kernel_rfl) ?_
                  refine I_all1 8 (by kernel_rfl) ?_
                  refine I_op 8 rfl ?_ rfl
                  refine L_storeA b4 0 [(.int .i64 no), (.int .i32 ((hexF x19).1)), (.int .i32 ((hexF x32).1)), (.bool true)] [(.int .i64 0), (.int .i32 0), (.int .i32 0), (.bool false)] [(.int .i64 no), (.int .i32 ((hexF x19).1)), (.int .i32 ((hexF x32).1)), (.bool true)] 27 (by kernel_rfl) (by kernel_rfl) rfl (by kernel_rfl) o_x2 (by kernel_rfl) rfl ?_
                  intro w60 hW61
                  replace hb := hb.trans (hW61.below g_x2)
                  replace hs := Nat.le_trans hs (Nat.le_of_eq hW61.size.symm)
                  have n_o_x1 := obj_wrote o_x1 hW61 (obj_ne o_x1 o_x2 (by simp))
                  have n_p_f := in_p_f.below hb
                  replace o_x1 := n_o_x1; clear n_o_x1
                  replace p_f := n_p_f; clear n_p_f
                  replace o_x2 := hW61.here
                  refine L_nil ?_
                  refine ⟨rfl, ?_⟩
                  refine I_take 9 (.int .i64 0) rfl (by kernel_rfl) (by kernel_rfl) (by kernel_rfl) (by kernel_rfl) (noPanic_then noPanic_end) (by kernel_rfl) (fun _ => by kernel_rfl) ?_
                  refine I_done (by kernel_rfl) ?_
                  refine thenQ_normal (W_ret ?_)
                  refine end_ret [.cell 2 27, .tmp 3] [(Value.agg #[(.int .i64 no), (.int .i32 ((hexF x19).1)), (.int .i32 ((hexF x32).1)), (.bool true)]), (.int .i64 0)] rfl rfl ⟨⟨⟨b4, 0, none⟩, by kernel_rfl, load_agg [(.int .i64 no), (.int .i32 ((hexF x19).1)), (.int .i32 ((hexF x32).1)), (.bool true)] (by kernel_rfl) (by kernel_rfl) (cells_obj o_x2)⟩, by kernel_rfl, trivial⟩ ?_
                  have hE : ((Value.agg #[(.int .i64 no), (.int .i32 ((hexF x19).1)), (.int .i32 ((hexF x32).1)), (.bool true)]) = (Value.agg #[(.int .i64 ((mscanF no k f t).1.1)), (.int .i32 ((mscanF no k f t).1.2.1)), (.int .i32 ((mscanF no k f t).1.2.2.1)), (.bool ((mscanF no k f t).1.2.2.2))])) ∧ ((0 : Int) = (mscanF no k f t).2) := ⟨(by (rw [ms_ok (by omega) (by omega) (by assumption) (by assumption) (by assumption) (by assumption)]; first | done | (rw [(by assumption : hpB t bestT = true)]; first | done | rfl) | (rw [(by assumption : hpB t bestT = false)]; first | done | rfl) | rfl)), (by (rw [ms_ok (by omega) (by omega) (by assumption) (by assumption) (by assumption) (by assumption)]; first | done | (rw [(by assumption : hpB t bestT = true)]; first | done | rfl) | (rw [(by assumption : hpB t bestT = false)]; first | done | rfl) | rfl))⟩
                  exact ⟨tup2 (hE.1) (congrArg (Value.int .i64) hE.2), hb⟩
                · intro h62
                  refine L_nil ?_
                  refine ⟨rfl, ?_⟩
                  refine I_take 7 (Value.agg #[(.int .i64 no), (.int .i32 ((hexF x19).1)), (.int .i32 ((hexF x32).1)), (.bool false)]) rfl (by kernel_rfl) (by kernel_rfl) (by kernel_rfl) (by kernel_rfl) (noPanic_then noPanic_end) (by kernel_rfl) (fun _ => by kernel_rfl) ?_
                  refine I_all1 8 (by kernel_rfl) ?_
                  refine I_op 8 rfl ?_ rfl
                  refine L_storeA b4 0 [(.int .i64 no), (.int .i32 ((hexF x19).1)), (.int .i32 ((hexF x32).1)), (.bool false)] [(.int .i64 0), (.int .i32 0), (.int .i32 0), (.bool false)] [(.int .i64 no), (.int .i32 ((hexF x19).1)), (.int .i32 ((hexF x32).1)), (.bool false)] 27 (by kernel_rfl) (by kernel_rfl) rfl (by kernel_rfl) o_x2 (by kernel_rfl) rfl ?_
                  intro w63 hW64
                  replace hb := hb.trans (hW64.below g_x2)
                  replace hs := Nat.le_trans hs (Nat.le_of_eq hW64.size.symm)
                  have n_o_x1 := obj_wrote o_x1 hW64 (obj_ne o_x1 o_x2 (by simp))
                  have n_p_f := in_p_f.below hb
                  replace o_x1 := n_o_x1; clear n_o_x1
                  replace p_f := n_p_f; clear n_p_f
                  replace o_x2 := hW64.here
                  refine L_nil ?_
                  refine ⟨rfl, ?_⟩
                  refine I_take 9 (.int .i64 0) rfl (by kernel_rfl) (by kernel_rfl) (by kernel_rfl) (by kernel_rfl) (noPanic_then noPanic_end) (by kernel_rfl) (fun _ => by kernel_rfl) ?_
                  refine I_done (by kernel_rfl) ?_
                  refine thenQ_normal (W_ret ?_)
                  refine end_ret [.cell 2 27, .tmp 3] [(Value.agg #[(.int .i64 no), (.int .i32 ((hexF x19).1)), (.int .i32 ((hexF x32).1)), (.bool false)]), (.int .i64 0)] rfl rfl ⟨⟨⟨b4, 0, none⟩, by kernel_rfl, load_agg [(.int .i64 no), (.int .i32 ((hexF x19).1)), (.int .i32 ((hexF x32).1)), (.bool false)] (by kernel_rfl) (by kernel_rfl) (cells_obj o_x2)⟩, by kernel_rfl, trivial⟩ ?_
                  have hE : ((Value.agg #[(.int .i64 no), (.int .i32 ((hexF x19).1)), (.int .i32 ((hexF x32).1)), (.bool false)]) = (Value.agg #[(.int .i64 ((mscanF no k f t).1.1)), (.int .i32 ((mscanF no k f t).1.2.1)), (.int .i32 ((mscanF no k f t).1.2.2.1)), (.bool ((mscanF no k f t).1.2.2.2))])) ∧ ((0 : Int) = (mscanF no k f t).2) := ⟨(by (rw [ms_ok (by omega) (by omega) (by assumption) (by assumption) (by assumption) (by assumption)]; first | done | (rw [(by assumption : hpB t bestT = true)]; first | done | rfl) | (rw [(by assumption : hpB t bestT = false)]; first | done | rfl) | rfl)), (by (rw [ms_ok (by omega) (by omega) (by assumption) (by assumption) (by assumption) (by assumption)]; first | done | (rw [(by assumption : hpB t bestT = true)]; first | done | rfl) | (rw [(by assumption : hpB t bestT = false)]; first | done | rfl) | rfl))⟩
                  exact ⟨tup2 (hE.1) (congrArg (Value.int .i64) hE.2), hb⟩
              · skip
                refine I_op 6 rfl ?_ rfl
                refine L_call 29 [(S t), (S ([91, 66, 69, 83, 84, 32, 70, 73, 84, 93] : List UInt8))] (by kernel_rfl) (by kernel_rfl) (c_strings_HasPrefix t ([91, 66, 69, 83, 84, 32, 70, 73, 84, 93] : List UInt8) _ ) ?_
                rintro _ w65 ⟨rfl, hB66⟩
                replace hb := hb.trans (hB66.mono hs)
                replace hs := Nat.le_trans hs (hB66.size)
                replace o_x1 := obj_below o_x1 hB66
                replace o_x2 := obj_below o_x2 hB66
                replace p_f := p_f.below hB66
                refine put_split (hpB t ([91, 66, 69, 83, 84, 32, 70, 73, 84, 93] : List UInt8)) ?_ ?_
                · intro h68
                  refine L_nil ?_
                  refine ⟨rfl, ?_⟩
                  refine I_all1 1 (by kernel_rfl) ?_
                  refine I_op 1 rfl ?_ rfl
                  refine L_load b1 0 (.int .i64 no) (by kernel_rfl) (by kernel_rfl) (cell_obj o_x1 rfl) (L_nil ?_)
                  refine ⟨rfl, ?_⟩
                  refine I_take 7 (Value.agg #[(.int .i64 no), (.int .i32 ((hexF x19).1)), (.int .i32 ((hexF x32).1)), (.bool true)]) rfl (by kernel_rfl) (by kernel_rfl) (by kernel_rfl) (by kernel_rfl) (noPanic_then noPanic_end) (by kernel_rfl) (fun _ => by kernel_rfl) ?_
                  refine I_all1 8 (by kernel_rfl) ?_
                  refine I_op 8 rfl ?_ rfl
                  refine L_storeA b4 0 [(.int .i64 no), (.int .i32 ((hexF x19).1)), (.int .i32 ((hexF x32).1)), (.bool true)] [(.int .i64 0), (.int .i32 0), (.int .i32 0), (.bool false)] [(.int .i64 no), (.int .i32 ((hexF x19).1)), (.int .i32 ((hexF x32).1)), (.bool true)] 27 (by kernel_rfl) (by kernel_rfl) rfl (by kernel_rfl) o_x2 (by kernel_rfl) rfl ?_
                  intro w69 hW70
                  replace hb := hb.trans (hW70.below g_x2)
                  replace hs := Nat.le_trans hs (Nat.le_of_eq hW70.size.symm)
                  have n_o_x1 := obj_wrote o_x1 hW70 (obj_ne o_x1 o_x2 (by simp))
                  have n_p_f := in_p_f.below hb
                  replace o_x1 := n_o_x1; clear n_o_x1
                  replace p_f := n_p_f; clear n_p_f
                  replace o_x2 := hW70.here
                  refine L_nil ?_
                  refine ⟨rfl, ?_⟩
                  refine I_take 9 (.int .i64 0) rfl (by kernel_rfl) (by kernel_rfl) (by kernel_rfl) (by kernel_rfl) (noPanic_then noPanic_end) (by kernel_rfl) (fun _ => by kernel_rfl) ?_
                  refine I_done (by kernel_rfl) ?_
                  refine thenQ_normal (W_ret ?_)
                  refine end_ret [.cell 2 27, .tmp 3] [(Value.agg #[(.int .i64 no), (.int .i32 ((hexF x19).1)), (.int .i32 ((hexF x32).1)), (.bool true)]), (.int .i64 0)] rfl rfl ⟨⟨⟨b4, 0, none⟩, by kernel_rfl, load_agg [(.int .i64 no), (.int .i32 ((hexF x19).1)), (.int .i32 ((hexF x32).1)), (.bool true)] (by kernel_rfl) (by kernel_rfl) (cells_obj o_x2)⟩, by kernel_rfl, trivial⟩ ?_
                  have hE : ((Value.agg #[(.int .i64 no), (.int .i32 ((hexF x19).1)), (.int .i32 ((hexF x32).1)), (.bool true)]) = (Value.agg #[(.int .i64 ((mscanF no k f t).1.1)), (.int .i32 ((mscanF no k f t).1.2.1)), (.int .i32 ((mscanF no k f t).1.2.2.1)), (.bool ((mscanF no k f t).1.2.2.2))])) ∧ ((0 : Int) = (mscanF no k f t).2) := ⟨(by (rw [ms_ok (by omega) (by omega) (by assumption) (by assumption) (by assumption) (by assumption)]; first | done | (rw [(by assumption : hpB t bestT = true)]; first | done | rfl) | (rw [(by assumption : hpB t bestT = false)]; first | done | rfl) | rfl)), (by (rw [ms_ok (by omega) (by omega) (by assumption) (by assumption) (by assumption) (by assumption)]; first | done | (rw [(by assumption : hpB t bestT = true)]; first | done | rfl) | (rw [(by assumption : hpB t bestT = false)]; first | done | rfl) | rfl))⟩
                  exact ⟨tup2 (hE.1) (congrArg (Value.int .i64) hE.2), hb⟩
                · intro h71
                  refine L_nil ?_
                  refine ⟨rfl, ?_⟩
                  refine I_all1 1 (by kernel_rfl) ?_
                  refine I_op 1 rfl ?_ rfl
                  refine L_load b1 0 (.int .i64 no) (by kernel_rfl) (by kernel_rfl) (cell_obj o_x1 rfl) (L_nil ?_)
                  refine ⟨rfl, ?_⟩
                  refine I_take 7 (Value.agg #[(.int .i64 no), (.int .i32 ((hexF x19).1)), (.int .i32 ((hexF x32).1)), (.bool false)]) rfl (by kernel_rfl) (by kernel_rfl) (by kernel_rfl) (by kernel_rfl) (noPanic_then noPanic_end) (by kernel_rfl) (fun _ => by kernel_rfl) ?_
                  refine I_all1 8 (by kernel_rfl) ?_
                  refine I_op 8 rfl ?_ rfl
                  refine L_storeA b4 0 [(.int .i64 no), (.int .i32 ((hexF x19).1)), (.int .i32 ((hexF x32).1)), (.bool false)] [(.int .i64 0), (.int .i32 0), (.int .i32 0), (.bool false)] [(.int .i64 no), (.int .i32 ((hexF x19).1)), (.int .i32 ((hexF x32).1)), (.bool false)] 27 (by kernel_rfl) (by kernel_rfl) rfl (by kernel_rfl) o_x2 (by kernel_rfl) rfl ?_
                  intro w72 hW73
                  replace hb := hb.trans (hW73.below g_x2)
                  replace hs := Nat.le_trans hs (Nat.le_of_eq hW73.size.symm)
                  have n_o_x1 := obj_wrote o_x1 hW73 (obj_ne o_x1 o_x2 (by simp))
                  have n_p_f := in_p_f.below hb
                  replace o_x1 := n_o_x1; clear n_o_x1
                  replace p_f := n_p_f; clear n_p_f
                  replace o_x2 := hW73.here
                  refine L_nil ?_
                  refine ⟨rfl, ?_⟩
                  refine I_take 9 (.int .i64 0) rfl (by kernel_rfl) (by kernel_rfl) (by kernel_rfl) (by kernel_rfl) (noPanic_then noPanic_end) (by kernel_rfl) (fun _ => by kernel_rfl) ?_
                  refine I_done (by kernel_rfl) ?_
                  refine thenQ_normal (W_ret ?_)
                  refine end_ret [.cell 2 27, .tmp 3] [(Value.agg #[(.int .i64 no), (.int .i32 ((hexF x19).1)), (.int .i32 ((hexF x32).1)), (.bool false)]), (.int .i64 0)] rfl rfl ⟨⟨⟨b4, 0, none⟩, by kernel_rfl, load_agg [(.int .i64 no), (.int .i32 ((hexF x19).1)), (.int .i32 ((hexF x32).1)), (.bool false)] (by kernel_rfl) (by kernel_rfl) (cells_obj o_x2)⟩, by kernel_rfl, trivial⟩ ?_
                  have hE : ((Value.agg #[(.int .i64 no), (.int .i32 ((hexF x19).1)), (.int .i32 ((hexF x32).1)), (.bool false)]) = (Value.agg #[(.int .i64 ((mscanF no k f t).1.1)), (.int .i32 ((mscanF no k f t).1.2.1)), (.int .i32 ((mscanF no k f t).1.2.2.1)), (.bool ((mscanF no k f t).1.2.2.2))])) ∧ ((0 : Int) = (mscanF no k f t).2) := ⟨(by (rw [ms_ok (by omega) (by omega) (by assumption) (by assumption) (by assumption) (by assumption)]; first | done | (rw [(by assumption : hpB t bestT = true)]; first | done | rfl) | (rw [(by assumption : hpB t bestT = false)]; first | done | rfl) | rfl)), (by (rw [ms_ok (by omega) (by omega) (by assumption) (by assumption) (by assumption) (by assumption)]; first | done | (rw [(by assumption : hpB t bestT = true)]; first | done | rfl) | (rw [(by assumption : hpB t bestT = false)]; first | done | rfl) | rfl))⟩
                  exact ⟨tup2 (hE.1) (congrArg (Value.int .i64) hE.2), hb⟩

set_option maxHeartbeats 4000000 in
set_option maxRecDepth 100000 in
theorem c_furrowref09_Scan (no : Int) (k : Int) (m : List UInt8) (v_f : Value) (f : List (List UInt8)) (t : List UInt8) (w : World) (p_f : Rd w encStr v_f f) (hf : ∀ x ∈ f, x.length ≤ 1073741824) (ht : t.length ≤ 1073741824) (hn : f.length ≤ 1073741824) :
    Calls Tryd.prog 13 #[(Value.agg #[(.int .i64 no), (.int .u8 k), (S m), v_f, (S t)])] w (Ret fun v w' => v = (.tuple #[(Value.agg #[(.int .i64 ((mscanF no k f t).1.1)), (.int .i32 ((mscanF no k f t).1.2.1)), (.int .i32 ((mscanF no k f t).1.2.2.1)), (.bool ((mscanF no k f t).1.2.2.2))]), (.int .i64 ((mscanF no k f t).2))]) ∧ Below w.heap.size w w') := by
  refine enter (args := [(Value.agg #[(.int .i64 no), (.int .u8 k), (S m), v_f, (S t)])]) Tryd.func13 rfl (by kernel_rfl : _ = 60) (by kernel_rfl) ?_
  have hb := Below.refl w.heap.size w
  have hs : w.heap.size ≤ w.heap.size := Nat.le_refl _
  have in_p_f := p_f
  refine W_seq (W_region (L_new (fun b => .pointer (some ⟨b, 0, none⟩)) (.cells [(.int .i64 no), (.int .u8 k), (S m), v_f, (S t)].toArray 25 (0, 0)) (by kernel_rfl) (by kernel_rfl) ?_))
  intro b1 w2 hN3
  have g_x1 : w.heap.size ≤ b1 := by rw [hN3.num]; exact hs
  replace hb := hb.trans (hN3.below.mono hs)
  replace hs := Nat.le_trans hs (hN3.below.size)
  replace p_f := p_f.below hN3.below
  have o_x1 := hN3.here
  refine L_new (fun b => .pointer (some ⟨b, 0, none⟩)) (.cells [(.int .i64 0), (.int .i32 0), (.int .i32 0), (.bool false)].toArray 27 (0, 0)) (by kernel_rfl) (by kernel_rfl) ?_
  intro b4 w5 hN6
  have ne_x1_x2 : b1 ≠ b4 := by have := (obj_lt o_x1); have := hN6.num; omega
  have ne_x2_x1 := ne_x1_x2.symm
  have g_x2 : w.heap.size ≤ b4 := by rw [hN6.num]; exact hs
  replace hb := hb.trans (hN6.below.mono hs)
  replace hs := Nat.le_trans hs (hN6.below.size)
  replace o_x1 := obj_below o_x1 hN6.below
  replace p_f := p_f.below hN6.below
  have o_x2 := hN6.here
  refine L_as (L_nil (thenQ_normal (W_seq (W_seq (W_region (L_run (.pointer (some ⟨b1, 1, none⟩)) (by kernel_rfl) (by kernel_rfl) (L_load b1 1 (.int .u8 k) (by kernel_rfl) (by kernel_rfl) (cell_obj o_x1 rfl) (L_cmp .u8 k 2 (k = 2) rfl (cmp_eq k 2) (by kernel_rfl) (by kernel_rfl) ?_ ?_))))))))
  · intro h7
    replace h7 : k = 2 := by omega
    refine L_nil (thenQ_normal (W_true (by kernel_rfl) (W_seq (W_region (L_run (Value.agg #[(.int .i64 0), (.int .i32 0), (.int .i32 0), (.bool false)]) (by kernel_rfl) (by kernel_rfl) (L_storeA b4 0 [(.int .i64 0), (.int .i32 0), (.int .i32 0), (.bool false)] [(.int .i64 0), (.int .i32 0), (.int .i32 0), (.bool false)] [(.int .i64 0), (.int .i32 0), (.int .i32 0), (.bool false)] 27 (by kernel_rfl) (by kernel_rfl) rfl (by kernel_rfl) o_x2 (by kernel_rfl) rfl ?_))))))
    intro w8 hW9
    replace hb := hb.trans (hW9.below g_x2)
    replace hs := Nat.le_trans hs (Nat.le_of_eq hW9.size.symm)
    have n_o_x1 := obj_wrote o_x1 hW9 (obj_ne o_x1 o_x2 (by simp))
    have n_p_f := in_p_f.below hb
    replace o_x1 := n_o_x1; clear n_o_x1
    replace p_f := n_p_f; clear n_p_f
    replace o_x2 := hW9.here
    refine L_as (L_nil (thenQ_normal (W_ret (thenQ_ret ?_))))
    refine end_ret [.cell 2 27, .tmp 3] [(Value.agg #[(.int .i64 0), (.int .i32 0), (.int .i32 0), (.bool false)]), (.int .i64 33)] rfl rfl ⟨⟨⟨b4, 0, none⟩, by kernel_rfl, load_agg [(.int .i64 0), (.int .i32 0), (.int .i32 0), (.bool false)] (by kernel_rfl) (by kernel_rfl) (cells_obj o_x2)⟩, by kernel_rfl, trivial⟩ ?_
    have hE : ((Value.agg #[(.int .i64 0), (.int .i32 0), (.int .i32 0), (.bool false)]) = (Value.agg #[(.int .i64 ((mscanF no k f t).1.1)), (.int .i32 ((mscanF no k f t).1.2.1)), (.int .i32 ((mscanF no k f t).1.2.2.1)), (.bool ((mscanF no k f t).1.2.2.2))])) ∧ ((33 : Int) = (mscanF no k f t).2) := ⟨(by (rw [ms_order (by assumption)]; first | done | rfl | omega)), (by (rw [ms_order (by assumption)]; first | done | rfl | omega))⟩
    exact ⟨tup2 (hE.1) (congrArg (Value.int .i64) hE.2), hb⟩
  · intro h10
    replace h10 : k ≠ 2 := by omega
    refine L_nil (thenQ_normal (W_false (by kernel_rfl) (W_skip (thenQ_normal (W_seq (W_seq (W_region (L_run (.pointer (some ⟨b1, 1, none⟩)) (by kernel_rfl) (by kernel_rfl) (L_load b1 1 (.int .u8 k) (by kernel_rfl) (by kernel_rfl) (cell_obj o_x1 rfl) (L_cmp .u8 k 1 (k ≠ 1) rfl (cmp_ne k 1) (by kernel_rfl) (by kernel_rfl) ?_ ?_))))))))))
    · intro h11
      replace h11 : k ≠ 1 := by omega
      refine L_mv (L_skip (by kernel_rfl) (L_skip (by kernel_rfl) (L_skip (by kernel_rfl) (L_skip (by kernel_rfl) (L_pickT (by kernel_rfl) (L_nil (thenQ_normal (W_true (by kernel_rfl) (W_seq (W_region (L_run (Value.agg #[(.int .i64 0), (.int .i32 0), (.int .i32 0), (.bool false)]) (by kernel_rfl) (by kernel_rfl) (L_storeA b4 0 [(.int .i64 0), (.int .i32 0), (.int .i32 0), (.bool false)] [(.int .i64 0), (.int .i32 0), (.int .i32 0), (.bool false)] [(.int .i64 0), (.int .i32 0), (.int .i32 0), (.bool false)] 27 (by kernel_rfl) (by kernel_rfl) rfl (by kernel_rfl) o_x2 (by kernel_rfl) rfl ?_))))))))))))
      intro w12 hW13
      replace hb := hb.trans (hW13.below g_x2)
      replace hs := Nat.le_trans hs (Nat.le_of_eq hW13.size.symm)
      have n_o_x1 := obj_wrote o_x1 hW13 (obj_ne o_x1 o_x2 (by simp))
      have n_p_f := in_p_f.below hb
      replace o_x1 := n_o_x1; clear n_o_x1
      replace p_f := n_p_f; clear n_p_f
      replace o_x2 := hW13.here
      refine L_as (L_nil (thenQ_normal (W_ret (thenQ_ret ?_))))
      refine end_ret [.cell 2 27, .tmp 3] [(Value.agg #[(.int .i64 0), (.int .i32 0), (.int .i32 0), (.bool false)]), (.int .i64 60)] rfl rfl ⟨⟨⟨b4, 0, none⟩, by kernel_rfl, load_agg [(.int .i64 0), (.int .i32 0), (.int .i32 0), (.bool false)] (by kernel_rfl) (by kernel_rfl) (cells_obj o_x2)⟩, by kernel_rfl, trivial⟩ ?_
      have hE : ((Value.agg #[(.int .i64 0), (.int .i32 0), (.int .i32 0), (.bool false)]) = (Value.agg #[(.int .i64 ((mscanF no k f t).1.1)), (.int .i32 ((mscanF no k f t).1.2.1)), (.int .i32 ((mscanF no k f t).1.2.2.1)), (.bool ((mscanF no k f t).1.2.2.2))])) ∧ ((60 : Int) = (mscanF no k f t).2) := ⟨(by (rw [ms_cells (by assumption) (.inl (by assumption))]; first | done | rfl | omega)), (by (rw [ms_cells (by assumption) (.inl (by assumption))]; first | done | rfl | omega))⟩
      exact ⟨tup2 (hE.1) (congrArg (Value.int .i64) hE.2), hb⟩
    · intro h14
      replace h14 : k = 1 := by omega
      refine L_mv (L_want (by kernel_rfl) (L_run (.pointer (some ⟨b1, 3, none⟩)) (by kernel_rfl) (by kernel_rfl) (L_want (by kernel_rfl) (L_load b1 3 v_f (by kernel_rfl) (by kernel_rfl) (cell_obj o_x1 rfl) (L_want (by kernel_rfl) (L_len 23 9 (f).length v_f rfl Tryd.underlying23 (p_f).len (by kernel_rfl) (L_want (by kernel_rfl) (L_cmp .i64 (((f).length : Nat) : Int) ((2 : Nat) : Int) ((f).length ≠ 2) rfl (cmpN_ne ((f).length) 2) (by kernel_rfl) (by kernel_rfl) ?_ ?_))))))))
      · intro h15
        replace h15 : (f).length ≠ 2 := by omega
        refine L_pickF (by kernel_rfl) (L_nil (thenQ_normal (W_true (by kernel_rfl) (W_seq (W_region (L_run (Value.agg #[(.int .i64 0), (.int .i32 0), (.int .i32 0), (.bool false)]) (by kernel_rfl) (by kernel_rfl) (L_storeA b4 0 [(.int .i64 0), (.int .i32 0), (.int .i32 0), (.bool false)] [(.int .i64 0), (.int .i32 0), (.int .i32 0), (.bool false)] [(.int .i64 0), (.int .i32 0), (.int .i32 0), (.bool false)] 27 (by kernel_rfl) (by kernel_rfl) rfl (by kernel_rfl) o_x2 (by kernel_rfl) rfl ?_)))))))
        intro w16 hW17
        replace hb := hb.trans (hW17.below g_x2)
        replace hs := Nat.le_trans hs (Nat.le_of_eq hW17.size.symm)
        have n_o_x1 := obj_wrote o_x1 hW17 (obj_ne o_x1 o_x2 (by simp))
        have n_p_f := in_p_f.below hb
        replace o_x1 := n_o_x1; clear n_o_x1
        replace p_f := n_p_f; clear n_p_f
        replace o_x2 := hW17.here
        refine L_as (L_nil (thenQ_normal (W_ret (thenQ_ret ?_))))
        refine end_ret [.cell 2 27, .tmp 3] [(Value.agg #[(.int .i64 0), (.int .i32 0), (.int .i32 0), (.bool false)]), (.int .i64 60)] rfl rfl ⟨⟨⟨b4, 0, none⟩, by kernel_rfl, load_agg [(.int .i64 0), (.int .i32 0), (.int .i32 0), (.bool false)] (by kernel_rfl) (by kernel_rfl) (cells_obj o_x2)⟩, by kernel_rfl, trivial⟩ ?_
        have hE : ((Value.agg #[(.int .i64 0), (.int .i32 0), (.int .i32 0), (.bool false)]) = (Value.agg #[(.int .i64 ((mscanF no k f t).1.1)), (.int .i32 ((mscanF no k f t).1.2.1)), (.int .i32 ((mscanF no k f t).1.2.2.1)), (.bool ((mscanF no k f t).1.2.2.2))])) ∧ ((60 : Int) = (mscanF no k f t).2) := ⟨(by (rw [ms_cells (by assumption) (.inr (by omega))]; first | done | rfl | omega)), (by (rw [ms_cells (by assumption) (.inr (by omega))]; first | done | rfl | omega))⟩
        exact ⟨tup2 (hE.1) (congrArg (Value.int .i64) hE.2), hb⟩
      · intro h18
        replace h18 : (f).length = 2 := by omega
        refine L_pickF (by kernel_rfl) (L_nil (thenQ_normal (W_false (by kernel_rfl) (W_skip (thenQ_normal (W_seq (W_region (L_run (.pointer (some ⟨b1, 3, none⟩)) (by kernel_rfl) (by kernel_rfl) (L_load b1 3 v_f (by kernel_rfl) (by kernel_rfl) (cell_obj o_x1 rfl) ?_)))))))))
        have hz := get_some f 0 (by omega); obtain ⟨x19, hx20⟩ := hz
        have hz := (p_f).at (k := 1) (fun _ => rfl) hx20
        obtain ⟨g21, off22, hl23, hc24⟩ := hz
        have hxl_x19 := hf _ (List.mem_of_getElem? hx20)
        have hex_x19 := hexF_err x19
        refine L_ixaddr (k := .i64) v_f 0 _ g21 off22 el23 hl23 (by omega) (by kernel_rfl) (by kernel_rfl) (L_load g21 (off22 + 0 * 1) (S x19) (by kernel_rfl) (by kernel_rfl) (hc24 0 _ rfl) (L_call 30 [(S x19)] (by kernel_rfl) (by kernel_rfl) (c_furrowref04_Read x19 _ (by omega)) ?_))
        rintro _ w25 ⟨rfl, hB26⟩
        replace hb := hb.trans (hB26.mono hs)
        replace hs := Nat.le_trans hs (hB26.size)
        replace o_x1 := obj_below o_x1 hB26
        replace o_x2 := obj_below o_x2 hB26
        replace p_f := p_f.below hB26
        refine L_mv (L_run (.int .i32 ((hexF x19).1)) (by kernel_rfl) (by kernel_rfl) (L_run (.int .i64 ((hexF x19).2)) (by kernel_rfl) (by kernel_rfl) (L_as (L_as (L_nil (thenQ_normal (W_seq (W_region (L_run (.pointer (some ⟨b1, 3, none⟩)) (by kernel_rfl) (by kernel_rfl) (L_load b1 3 v_f (by kernel_rfl) (by kernel_rfl) (cell_obj o_x1 rfl) ?_))))))))))
        have hz := get_some f 1 (by omega); obtain ⟨x28, hx29⟩ := hz
        have hz := (p_f).at (k := 1) (fun _ => rfl) hx29
        obtain ⟨g30, off31, hl32, hc33⟩ := hz
        have hxl_x28 := hf _ (List.mem_of_getElem? hx29)
        have hex_x28 := hexF_err x28
        refine L_ixaddr (k := .i64) v_f 1 _ g30 off31 el23 hl32 (by omega) (by kernel_rfl) (by kernel_rfl) (L_load g30 (off31 + 1 * 1) (S x28) (by kernel_rfl) (by kernel_rfl) (hc33 0 _ rfl) (L_call 30 [(S x28)] (by kernel_rfl) (by kernel_rfl) (c_furrowref04_Read x28 _ (by omega)) ?_))
        rintro _ w34 ⟨rfl, hB35⟩
        replace hb := hb.trans (hB35.mono hs)
        replace hs := Nat.le_trans hs (hB35.size)
        replace o_x1 := obj_below o_x1 hB35
        replace o_x2 := obj_below o_x2 hB35
        replace p_f := p_f.below hB35
        refine L_mv (L_run (.int .i32 ((hexF x28).1)) (by kernel_rfl) (by kernel_rfl) (L_run (.int .i64 ((hexF x28).2)) (by kernel_rfl) (by kernel_rfl) (L_as (L_as (L_nil (thenQ_normal (W_seq (W_seq (W_region (L_mv (L_cmp .i64 ((hexF x19).2) 0 ((hexF x19).2 ≠ 0) rfl (cmp_ne ((hexF x19).2) 0) (by kernel_rfl) (by kernel_rfl) ?_ ?_)))))))))))
        · intro h37
          replace h37 : (hexF x19).2 ≠ 0 := by omega
          refine L_mv (L_skip (by kernel_rfl) (L_skip (by kernel_rfl) (L_pickT (by kernel_rfl) (L_nil (thenQ_normal (W_true (by kernel_rfl) (W_seq (W_region (L_run (Value.agg #[(.int .i64 0), (.int .i32 0), (.int .i32 0), (.bool false)]) (by kernel_rfl) (by kernel_rfl) (L_storeA b4 0 [(.int .i64 0), (.int .i32 0), (.int .i32 0), (.bool false)] [(.int .i64 0), (.int .i32 0), (.int .i32 0), (.bool false)] [(.int .i64 0), (.int .i32 0), (.int .i32 0), (.bool false)] 27 (by kernel_rfl) (by kernel_rfl) rfl (by kernel_rfl) o_x2 (by kernel_rfl) rfl ?_))))))))))
          intro w38 hW39
          replace hb := hb.trans (hW39.below g_x2)
          replace hs := Nat.le_trans hs (Nat.le_of_eq hW39.size.symm)
          have n_o_x1 := obj_wrote o_x1 hW39 (obj_ne o_x1 o_x2 (by simp))
          have n_p_f := in_p_f.below hb
          replace o_x1 := n_o_x1; clear n_o_x1
          replace p_f := n_p_f; clear n_p_f
          replace o_x2 := hW39.here
          refine L_as (L_nil (thenQ_normal (W_ret (thenQ_ret ?_))))
          refine end_ret [.cell 2 27, .tmp 3] [(Value.agg #[(.int .i64 0), (.int .i32 0), (.int .i32 0), (.bool false)]), (.int .i64 40)] rfl rfl ⟨⟨⟨b4, 0, none⟩, by kernel_rfl, load_agg [(.int .i64 0), (.int .i32 0), (.int .i32 0), (.bool false)] (by kernel_rfl) (by kernel_rfl) (cells_obj o_x2)⟩, by kernel_rfl, trivial⟩ ?_
          have hE : ((Value.agg #[(.int .i64 0), (.int .i32 0), (.int .i32 0), (.bool false)]) = (Value.agg #[(.int .i64 ((mscanF no k f t).1.1)), (.int .i32 ((mscanF no k f t).1.2.1)), (.int .i32 ((mscanF no k f t).1.2.2.1)), (.bool ((mscanF no k f t).1.2.2.2))])) ∧ ((40 : Int) = (mscanF no k f t).2) := ⟨(by (rw [ms_hex (by omega) (by omega) (by assumption) (by assumption) (.inl (by assumption))]; first | done | rfl | omega)), (by (rw [ms_hex (by omega) (by omega) (by assumption) (by assumption) (.inl (by assumption))]; first | done | rfl | omega))⟩
          exact ⟨tup2 (hE.1) (congrArg (Value.int .i64) hE.2), hb⟩
        · intro h40
          replace h40 : (hexF x19).2 = 0 := by omega
          refine L_mv (L_want (by kernel_rfl) (L_mv (L_want (by kernel_rfl) (L_cmp .i64 ((hexF x28).2) 0 ((hexF x28).2 ≠ 0) rfl (cmp_ne ((hexF x28).2) 0) (by kernel_rfl) (by kernel_rfl) ?_ ?_))))
          · intro h41
            replace h41 : (hexF x28).2 ≠ 0 := by omega
            refine L_pickF (by kernel_rfl) (L_nil (thenQ_normal (W_true (by kernel_rfl) (W_seq (W_region (L_run (Value.agg #[(.int .i64 0), (.int .i32 0), (.int .i32 0), (.bool false)]) (by kernel_rfl) (by kernel_rfl) (L_storeA b4 0 [(.int .i64 0), (.int .i32 0), (.int .i32 0), (.bool false)] [(.int .i64 0), (.int .i32 0), (.int .i32 0), (.bool false)] [(.int .i64 0), (.int .i32 0), (.int .i32 0), (.bool false)] 27 (by kernel_rfl) (by kernel_rfl) rfl (by kernel_rfl) o_x2 (by kernel_rfl) rfl ?_)))))))
            intro w42 hW43
            replace hb := hb.trans (hW43.below g_x2)
            replace hs := Nat.le_trans hs (Nat.le_of_eq hW43.size.symm)
            have n_o_x1 := obj_wrote o_x1 hW43 (obj_ne o_x1 o_x2 (by simp))
            have n_p_f := in_p_f.below hb
            replace o_x1 := n_o_x1; clear n_o_x1
            replace p_f := n_p_f; clear n_p_f
            replace o_x2 := hW43.here
            refine L_as (L_nil (thenQ_normal (W_ret (thenQ_ret ?_))))
            refine end_ret [.cell 2 27, .tmp 3] [(Value.agg #[(.int .i64 0), (.int .i32 0), (.int .i32 0), (.bool false)]), (.int .i64 40)] rfl rfl ⟨⟨⟨b4, 0, none⟩, by kernel_rfl, load_agg [(.int .i64 0), (.int .i32 0), (.int .i32 0), (.bool false)] (by kernel_rfl) (by kernel_rfl) (cells_obj o_x2)⟩, by kernel_rfl, trivial⟩ ?_
            have hE : ((Value.agg #[(.int .i64 0), (.int .i32 0), (.int .i32 0), (.bool false)]) = (Value.agg #[(.int .i64 ((mscanF no k f t).1.1)), (.int .i32 ((mscanF no k f t).1.2.1)), (.int .i32 ((mscanF no k f t).1.2.2.1)), (.bool ((mscanF no k f t).1.2.2.2))])) ∧ ((40 : Int) = (mscanF no k f t).2) := ⟨(by (rw [ms_hex (by omega) (by omega) (by assumption) (by assumption) (.inr (by assumption))]; first | done | rfl | omega)), (by (rw [ms_hex (by omega) (by omega) (by assumption) (by assumption) (.inr (by assumption))]; first | done | rfl | omega))⟩
            exact ⟨tup2 (hE.1) (congrArg (Value.int .i64) hE.2), hb⟩
          · intro h44
            replace h44 : (hexF x28).2 = 0 := by omega
            refine L_pickF (by kernel_rfl) (L_nil (thenQ_normal (W_false (by kernel_rfl) (W_skip (thenQ_normal (W_seq (W_draws 17 (by kernel_rfl) (by kernel_rfl) (by kernel_rfl) ?_)))))))
            intro w45 hB46
            replace hb := hb.trans (hB46.mono hs)
            replace hs := Nat.le_trans hs (hB46.size)
            replace o_x1 := obj_below o_x1 hB46
            replace o_x2 := obj_below o_x2 hB46
            replace p_f := p_f.below hB46
            refine I_take 0 (.pointer (some ⟨b1, 0, none⟩)) rfl (by kernel_rfl) (by kernel_rfl) (by kernel_rfl) (by kernel_rfl) (noPanic_then noPanic_end) (by kernel_rfl) (fun _ => by kernel_rfl) ?_
            refine I_take 2 (.int .i32 ((hexF x19).1)) rfl (by kernel_rfl) (by kernel_rfl) (by kernel_rfl) (by kernel_rfl) (noPanic_then noPanic_end) (by kernel_rfl) (fun _ => by kernel_rfl) ?_
            refine I_take 3 (.int .i32 ((hexF x28).1)) rfl (by kernel_rfl) (by kernel_rfl) (by kernel_rfl) (by kernel_rfl) (noPanic_then noPanic_end) (by kernel_rfl) (fun _ => by kernel_rfl) ?_
            refine I_take 4 (.pointer (some ⟨b1, 4, none⟩)) rfl (by kernel_rfl) (by kernel_rfl) (by kernel_rfl) (by kernel_rfl) (noPanic_then noPanic_end) (by kernel_rfl) (fun _ => by kernel_rfl) ?_
            refine I_all2 1 5 (by kernel_rfl) ?_ ?_
            · skip
              refine I_op 1 rfl ?_ rfl
              refine L_load b1 0 (.int .i64 no) (by kernel_rfl) (by kernel_rfl) (cell_obj o_x1 rfl) (L_nil ?_)
              refine ⟨rfl, ?_⟩
              refine I_all1 5 (by kernel_rfl) ?_
              refine I_op 5 rfl ?_ rfl
              refine L_load b1 4 (S t) (by kernel_rfl) (by kernel_rfl) (cell_obj o_x1 rfl) (L_nil ?_)
              refine ⟨rfl, ?_⟩
              refine I_all1 6 (by kernel_rfl) ?_
              refine I_op 6 rfl ?_ rfl
              refine L_slen 9 t rfl Tryd.underlying9 (by kernel_rfl) (L_nil ?_)
              refine ⟨rfl, ?_⟩
              refine I_all1 7 (by kernel_rfl) ?_
              refine I_op 7 rfl ?_ rfl
              refine L_cmp .i64 (((t).length : Nat) : Int) ((10 : Nat) : Int) (10 ≤ (t).length) rfl (cmpN_ge ((t).length) 10) (by kernel_rfl) (by kernel_rfl) ?_ ?_
              · intro h47
                replace h47 : 10 ≤ (t).length := by omega
                refine L_nil ?_
                refine ⟨rfl, ?_⟩
                refine I_take 8 (.bool true) rfl (by kernel_rfl) (by kernel_rfl) (by kernel_rfl) (by kernel_rfl) (noPanic_then noPanic_end) (by kernel_rfl) (fun _ => by kernel_rfl) ?_
                refine I_take 9 (.pointer (some ⟨b1, 4, none⟩)) rfl (by kernel_rfl) (by kernel_rfl) (by kernel_rfl) (by kernel_rfl) (noPanic_then noPanic_end) (by kernel_rfl) (fun _ => by kernel_rfl) ?_
                refine I_all1 10 (by kernel_rfl) ?_
                refine I_opG 10 rfl ?_ (by kernel_rfl)
                refine L_load b1 4 (S t) (by kernel_rfl) (by kernel_rfl) (cell_obj o_x1 rfl) (L_nil ?_)
                refine ⟨rfl, ?_⟩
                refine I_all1 11 (by kernel_rfl) ?_
                refine I_opG 11 rfl ?_ (by kernel_rfl)
                refine L_ssto t 10 Tryd.underlying9 (by kernel_rfl) ⟨.i64, by kernel_rfl⟩ (by omega) (L_nil ?_)
                refine ⟨rfl, ?_⟩
                refine I_all1 12 (by kernel_rfl) ?_
                refine I_opG 12 rfl ?_ (by kernel_rfl)
                refine L_seq (List.take 10 t) ([91, 66, 69, 83, 84, 32, 70, 73, 84, 93] : List UInt8) rfl (by kernel_rfl) (by kernel_rfl) ?_ ?_
                · intro h48
                  refine L_nil ?_
                  refine ⟨rfl, ?_⟩
                  refine I_take 13 (.bool true) rfl (by kernel_rfl) (by kernel_rfl) (by kernel_rfl) (by kernel_rfl) (noPanic_then noPanic_end) (by kernel_rfl) (fun _ => by kernel_rfl) ?_
                  refine I_take 14 (Value.agg #[(.int .i64 no), (.int .i32 ((hexF x19).1)), (.int .i32 ((hexF x28).1)), (.bool true)]) rfl (by kernel_rfl) (by kernel_rfl) (by kernel_rfl) (by kernel_rfl) (noPanic_then noPanic_end) (by kernel_rfl) (fun _ => by kernel_rfl) ?_
                  refine I_all1 15 (by kernel_rfl) ?_
                  refine I_op 15 rfl ?_ rfl
                  refine L_storeA b4 0 [(.int .i64 no), (.int .i32 ((hexF x19).1)), (.int .i32 ((hexF x28).1)), (.bool true)] [(.int .i64 0), (.int .i32 0), (.int .i32 0), (.bool false)] [(.int .i64 no), (.int .i32 ((hexF x19).1)), (.int .i32 ((hexF x28).1)), (.bool true)] 27 (by kernel_rfl) (by kernel_rfl) rfl (by kernel_rfl) o_x2 (by kernel_rfl) rfl ?_
                  intro w49 hW50
                  replace hb := hb.trans (hW50.below g_x2)
                  replace hs := Nat.le_trans hs (Nat.le_of_eq hW50.size.symm)
                  have n_o_x1 := obj_wrote o_x1 hW50 (obj_ne o_x1 o_x2 (by simp))
                  have n_p_f := in_p_f.below hb
                  replace o_x1 := n_o_x1; clear n_o_x1
                  replace p_f := n_p_f; clear n_p_f
                  replace o_x2 := hW50.here
                  refine L_nil ?_
                  refine ⟨rfl, ?_⟩
                  refine I_take 16 (.int .i64 0) rfl (by kernel_rfl) (by kernel_rfl) (by kernel_rfl) (by kernel_rfl) (noPanic_then noPanic_end) (by kernel_rfl) (fun _ => by kernel_rfl) ?_
                  refine I_done (by kernel_rfl) ?_
                  refine thenQ_normal (W_ret ?_)
                  refine end_ret [.cell 2 27, .tmp 3] [(Value.agg #[(.int .i64 no), (.int .i32 ((hexF x19).1)), (.int .i32 ((hexF x28).1)), (.bool true)]), (.int .i64 0)] rfl rfl ⟨⟨⟨b4, 0, none⟩, by kernel_rfl, load_agg [(.int .i64 no), (.int .i32 ((hexF x19).1)), (.int .i32 ((hexF x28).1)), (.bool true)] (by kernel_rfl) (by kernel_rfl) (cells_obj o_x2)⟩, by kernel_rfl, trivial⟩ ?_
                  have hE : ((Value.agg #[(.int .i64 no), (.int .i32 ((hexF x19).1)), (.int .i32 ((hexF x28).1)), (.bool true)]) = (Value.agg #[(.int .i64 ((mscanF no k f t).1.1)), (.int .i32 ((mscanF no k f t).1.2.1)), (.int .i32 ((mscanF no k f t).1.2.2.1)), (.bool ((mscanF no k f t).1.2.2.2))])) ∧ ((0 : Int) = (mscanF no k f t).2) := ⟨(by (rw [ms_ok (by omega) (by omega) (by assumption) (by assumption) (by assumption) (by assumption)]; first | done | (rw [hp_take (p := bestT) (by assumption)]; first | done | rfl) | (rw [hp_not (p := bestT) (.inl (by assumption))]; first | done | rfl) | (rw [hp_not (p := bestT) (.inr (by assumption))]; first | done | rfl) | rfl)), (by (rw [ms_ok (by omega) (by omega) (by assumption) (by assumption) (by assumption) (by assumption)]; first | done | (rw [hp_take (p := bestT) (by assumption)]; first | done | rfl) | (rw [hp_not (p := bestT) (.inl (by assumption))]; first | done | rfl) | (rw [hp_not (p := bestT) (.inr (by assumption))]; first | done | rfl) | rfl))⟩
                  exact ⟨tup2 (hE.1) (congrArg (Value.int .i64) hE.2), hb⟩
                · intro h51
                  refine L_nil ?_
                  refine ⟨rfl, ?_⟩
                  refine I_take 13 (.bool false) rfl (by kernel_rfl) (by kernel_rfl) (by kernel_rfl) (by kernel_rfl) (noPanic_then noPanic_end) (by kernel_rfl) (fun _ => by kernel_rfl) ?_
                  refine I_take 14 (Value.agg #[(.int .i64 no), (.int .i32 ((hexF x19).1)), (.int .i32 ((hexF x28).1)), (.bool false)]) rfl (by kernel_rfl) (by kernel_rfl) (by kernel_rfl) (by kernel_rfl) (noPanic_then noPanic_end) (by kernel_rfl) (fun _ => by kernel_rfl) ?_
                  refine I_all1 15 (by kernel_rfl) ?_
                  refine I_op 15 rfl ?_ rfl
                  refine L_storeA b4 0 [(.int .i64 no), (.int .i32 ((hexF x19).1)), (.int .i32 ((hexF x28).1)), (.bool false)] [(.int .i64 0), (.int .i32 0), (.int .i32 0), (.bool false)] [(.int .i64 no), (.int .i32 ((hexF x19).1)), (.int .i32 ((hexF x28).1)), (.bool false)] 27 (by kernel_rfl) (by kernel_rfl) rfl (by kernel_rfl) o_x2 (by kernel_rfl) rfl ?_
                  intro w52 hW53
                  replace hb := hb.trans (hW53.below g_x2)
                  replace hs := Nat.le_trans hs (Nat.le_of_eq hW53.size.symm)
                  have n_o_x1 := obj_wrote o_x1 hW53 (obj_ne o_x1 o_x2 (by simp))
                  have n_p_f := in_p_f.below hb
                  replace o_x1 := n_o_x1; clear n_o_x1
                  replace p_f := n_p_f; clear n_p_f
                  replace o_x2 := hW53.here
                  refine L_nil ?_
                  refine ⟨rfl, ?_⟩
                  refine I_take 16 (.int .i64 0) rfl (by kernel_rfl) (by kernel_rfl) (by kernel_rfl) (by kernel_rfl) (noPanic_then noPanic_end) (by kernel_rfl) (fun _ => by kernel_rfl) ?_
                  refine I_done (by kernel_rfl) ?_
                  refine thenQ_normal (W_ret ?_)
                  refine end_ret [.cell 2 27, .tmp 3] [(Value.agg #[(.int .i64 no), (.int .i32 ((hexF x19).1)), (.int .i32 ((hexF x28).1)), (.bool false)]), (.int .i64 0)] rfl rfl ⟨⟨⟨b4, 0, none⟩, by kernel_rfl, load_agg [(.int .i64 no), (.int .i32 ((hexF x19).1)), (.int .i32 ((hexF x28).1)), (.bool false)] (by kernel_rfl) (by kernel_rfl) (cells_obj o_x2)⟩, by kernel_rfl, trivial⟩ ?_
                  have hE : ((Value.agg #[(.int .i64 no), (.int .i32 ((hexF x19).1)), (.int .i32 ((hexF x28).1)), (.bool false)]) = (Value.agg #[(.int .i64 ((mscanF no k f t).1.1)), (.int .i32 ((mscanF no k f t).1.2.1)), (.int .i32 ((mscanF no k f t).1.2.2.1)), (.bool ((mscanF no k f t).1.2.2.2))])) ∧ ((0 : Int) = (mscanF no k f t).2) := ⟨(by (rw [ms_ok (by omega) (by omega) (by assumption) (by assumption) (by assumption) (by assumption)]; first | done | (rw [hp_take (p := bestT) (by assumption)]; first | done | rfl) | (rw [hp_not (p := bestT) (.inl (by assumption))]; first | done | rfl) | (rw [hp_not (p := bestT) (.inr (by assumption))]; first | done | rfl) | rfl)), (by (rw [ms_ok (by omega) (by omega) (by assumption) (by assumption) (by assumption) (by assumption)]; first | done | (rw [hp_take (p := bestT) (by assumption)]; first | done | rfl) | (rw [hp_not (p := bestT) (.inl (by assumption))]; first | done | rfl) | (rw [hp_not (p := bestT) (.inr (by assumption))]; first | done | rfl) | rfl))⟩
                  exact ⟨tup2 (hE.1) (congrArg (Value.int .i64) hE.2), hb⟩
              · intro h54
                replace h54 : (t).length < 10 := by omega
                refine L_nil ?_
                refine ⟨rfl, ?_⟩
                refine I_take 8 (.bool false) rfl (by kernel_rfl) (by kernel_rfl) (by kernel_rfl) (by kernel_rfl) (noPanic_then noPanic_end) (by kernel_rfl) (fun _ => by kernel_rfl) ?_
                refine I_takeS 9 rfl (by kernel_rfl) (by kernel_rfl) (by kernel_rfl) (by kernel_rfl) (noPanic_then noPanic_end) (by kernel_rfl) ?_
                refine I_takeS 10 rfl (by kernel_rfl) (by kernel_rfl) (by kernel_rfl) (by kernel_rfl) (noPanic_then noPanic_end) (by kernel_rfl) ?_
                refine I_takeS 11 rfl (by kernel_rfl) (by kernel_rfl) (by kernel_rfl) (by kernel_rfl) (noPanic_then noPanic_end) (by kernel_rfl) ?_
                refine I_takeS 12 rfl (by kernel_rfl) (by kernel_rfl) (by kernel_rfl) (by kernel_rfl) (noPanic_then noPanic_end) (by kernel_rfl) ?_
                refine I_take 13 (.bool false) rfl (by kernel_rfl) (by kernel_rfl) (by kernel_rfl) (by kernel_rfl) (noPanic_then noPanic_end) (by kernel_rfl) (fun _ => by kernel_rfl) ?_
                refine I_take 14 (Value.agg #[(.int .i64 no), (.int .i32 ((hexF x19).1)), (.int .i32 ((hexF x28).1)), (.bool false)]) rfl (by kernel_rfl) (by kernel_rfl) (by kernel_rfl) (by kernel_rfl) (noPanic_then noPanic_end) (by kernel_rfl) (fun _ => by kernel_rfl) ?_
                refine I_all1 15 (by kernel_rfl) ?_
                refine I_op 15 rfl ?_ rfl
                refine L_storeA b4 0 [(.int .i64 no), (.int .i32 ((hexF x19).1)), (.int .i32 ((hexF x28).1)), (.bool false)] [(.int .i64 0), (.int .i32 0), (.int .i32 0), (.bool false)] [(.int .i64 no), (.int .i32 ((hexF x19).1)), (.int .i32 ((hexF x28).1)), (.bool false)] 27 (by kernel_rfl) (by kernel_rfl) rfl (by kernel_rfl) o_x2 (by kernel_rfl) rfl ?_
                intro w55 hW56
                replace hb := hb.trans (hW56.below g_x2)
                replace hs := Nat.le_trans hs (Nat.le_of_eq hW56.size.symm)
                have n_o_x1 := obj_wrote o_x1 hW56 (obj_ne o_x1 o_x2 (by simp))
                have n_p_f := in_p_f.below hb
                replace o_x1 := n_o_x1; clear n_o_x1
                replace p_f := n_p_f; clear n_p_f
                replace o_x2 := hW56.here
                refine L_nil ?_
                refine ⟨rfl, ?_⟩
                refine I_take 16 (.int .i64 0) rfl (by kernel_rfl) (by kernel_rfl) (by kernel_rfl) (by kernel_rfl) (noPanic_then noPanic_end) (by kernel_rfl) (fun _ => by kernel_rfl) ?_
                refine I_done (by kernel_rfl) ?_
                refine thenQ_normal (W_ret ?_)
                refine end_ret [.cell 2 27, .tmp 3] [(Value.agg #[(.int .i64 no), (.int .i32 ((hexF x19).1)), (.int .i32 ((hexF x28).1)), (.bool false)]), (.int .i64 0)] rfl rfl ⟨⟨⟨b4, 0, none⟩, by kernel_rfl, load_agg [(.int .i64 no), (.int .i32 ((hexF x19).1)), (.int .i32 ((hexF x28).1)), (.bool false)] (by kernel_rfl) (by kernel_rfl) (cells_obj o_x2)⟩, by kernel_rfl, trivial⟩ ?_
                have hE : ((Value.agg #[(.int .i64 no), (.int .i32 ((hexF x19).1)), (.int .i32 ((hexF x28).1)), (.bool false)]) = (Value.agg #[(.int .i64 ((mscanF no k f t).1.1)), (.int .i32 ((mscanF no k f t).1.2.1)), (.int .i32 ((mscanF no k f t).1.2.2.1)), (.bool ((mscanF no k f t).1.2.2.2))])) ∧ ((0 : Int) = (mscanF no k f t).2) := ⟨(by (rw [ms_ok (by omega) (by omega) (by assumption) (by assumption) (by assumption) (by assumption)]; first | done | (rw [hp_take (p := bestT) (by assumption)]; first | done | rfl) | (rw [hp_not (p := bestT) (.inl (by assumption))]; first | done | rfl) | (rw [hp_not (p := bestT) (.inr (by assumption))]; first | done | rfl) | rfl)), (by (rw [ms_ok (by omega) (by omega) (by assumption) (by assumption) (by assumption) (by assumption)]; first | done | (rw [hp_take (p := bestT) (by assumption)]; first | done | rfl) | (rw [hp_not (p := bestT) (.inl (by assumption))]; first | done | rfl) | (rw [hp_not (p := bestT) (.inr (by assumption))]; first | done | rfl) | rfl))⟩
                exact ⟨tup2 (hE.1) (congrArg (Value.int .i64) hE.2), hb⟩
            · skip
              refine I_op 5 rfl ?_ rfl
              refine L_load b1 4 (S t) (by kernel_rfl) (by kernel_rfl) (cell_obj o_x1 rfl) (L_nil ?_)
              refine ⟨rfl, ?_⟩
              refine I_all2 1 6 (by kernel_rfl) ?_ ?_
              · skip
                refine I_op 1 rfl ?_ rfl
                refine L_load b1 0 (.int .i64 no) (by kernel_rfl) (by kernel_rfl) (cell_obj o_x1 rfl) (L_nil ?_)
                refine ⟨rfl, ?_⟩
                refine I_all1 6 (by kernel_rfl) ?_
                refine I_op 6 rfl ?_ rfl
                refine L_slen 9 t rfl Tryd.underlying9 (by kernel_rfl) (L_nil ?_)
                refine ⟨rfl, ?_⟩
                refine I_all1 7 (by kernel_rfl) ?_
                refine I_op 7 rfl ?_ rfl
                refine L_cmp .i64 (((t).length : Nat) : Int) ((10 : Nat) : Int) (10 ≤ (t).length) rfl (cmpN_ge ((t).length) 10) (by kernel_rfl) (by kernel_rfl) ?_ ?_
                · intro h57
                  replace h57 : 10 ≤ (t).length := by omega
                  refine L_nil ?_
                  refine ⟨rfl, ?_⟩
                  refine I_take 8 (.bool true) rfl (by kernel_rfl) (by kernel_rfl) (by kernel_rfl) (by kernel_rfl) (noPanic_then noPanic_end) (by kernel_rfl) (fun _ => by kernel_rfl) ?_
                  refine I_take 9 (.pointer (some ⟨b1, 4, none⟩)) rfl (by kernel_rfl) (by kernel_rfl) (by kernel_rfl) (by kernel_rfl) (noPanic_then noPanic_end) (by kernel_rfl) (fun _ => by kernel_rfl) ?_
                  refine I_all1 10 (by kernel_rfl) ?_
                  refine I_opG 10 rfl ?_ (by kernel_rfl)
                  refine L_load b1 4 (S t) (by kernel_rfl) (by kernel_rfl) (cell_obj o_x1 rfl) (L_nil ?_)
                  refine ⟨rfl, ?_⟩
                  refine I_all1 11 (by kernel_rfl) ?_
                  refine I_opG 11 rfl ?_ (by kernel_rfl)
                  refine L_ssto t 10 Tryd.underlying9 (by kernel_rfl) ⟨.i64, by kernel_rfl⟩ (by omega) (L_nil ?_)
                  refine ⟨rfl, ?_⟩
                  refine I_all1 12 (by kernel_rfl) ?_
                  refine I_opG 12 rfl ?_ (by kernel_rfl)
                  refine L_seq (List.take 10 t) ([91, 66, 69, 83, 84, 32, 70, 73, 84, 93] : List UInt8) rfl (by kernel_rfl) (by kernel_rfl) ?_ ?_
                  · intro h58
                    refine L_nil ?_
                    refine ⟨rfl, ?_⟩
                    refine I_take 13 (.bool true) rfl (by kernel_rfl) (by kernel_rfl) (by kernel_rfl) (by kernel_rfl) (noPanic_then noPanic_end) (by kernel_rfl) (fun _ => by kernel_rfl) ?_
                    refine I_take 14 (Value.agg #[(.int .i64 no), (.int .i32 ((hexF x19).1)), (.int .i32 ((hexF x28).1)), (.bool true)]) rfl (by kernel_rfl) (by kernel_rfl) (by kernel_rfl) (by kernel_rfl) (noPanic_then noPanic_end) (by kernel_rfl) (fun _ => by kernel_rfl) ?_
                    refine I_all1 15 (by kernel_rfl) ?_
                    refine I_op 15 rfl ?_ rfl
                    refine L_storeA b4 0 [(.int .i64 no), (.int .i32 ((hexF x19).1)), (.int .i32 ((hexF x28).1)), (.bool true)] [(.int .i64 0), (.int .i32 0), (.int .i32 0), (.bool false)] [(.int .i64 no), (.int .i32 ((hexF x19).1)), (.int .i32 ((hexF x28).1)), (.bool true)] 27 (by kernel_rfl) (by kernel_rfl) rfl (by kernel_rfl) o_x2 (by kernel_rfl) rfl ?_
                    intro w59 hW60
                    replace hb := hb.trans (hW60.below g_x2)
                    replace hs := Nat.le_trans hs (Nat.le_of_eq hW60.size.symm)
                    have n_o_x1 := obj_wrote o_x1 hW60 (obj_ne o_x1 o_x2 (by simp))
                    have n_p_f := in_p_f.below hb
                    replace o_x1 := n_o_x1; clear n_o_x1
                    replace p_f := n_p_f; clear n_p_f
                    replace o_x2 := hW60.here
                    refine L_nil ?_
                    refine ⟨rfl, ?_⟩
                    refine I_take 16 (.int .i64 0) rfl (by kernel_rfl) (by kernel_rfl) (by kernel_rfl) (by kernel_rfl) (noPanic_then noPanic_end) (by kernel_rfl) (fun _ => by kernel_rfl) ?_
                    refine I_done (by kernel_rfl) ?_
                    refine thenQ_normal (W_ret ?_)
                    refine end_ret [.cell 2 27, .tmp 3] [(Value.agg #[(.int .i64 no), (.int .i32 ((hexF x19).1)), (.int .i32 ((hexF x28).1)), (.bool true)]), (.int .i64 0)] rfl rfl ⟨⟨⟨b4, 0, none⟩, by kernel_rfl, load_agg [(.int .i64 no), (.int .i32 ((hexF x19).1)), (.int .i32 ((hexF x28).1)), (.bool true)] (by kernel_rfl) (by kernel_rfl) (cells_obj o_x2)⟩, by kernel_rfl, trivial⟩ ?_
                    have hE : ((Value.agg #[(.int .i64 no), (.int .i32 ((hexF x19).1)), (.int .i32 ((hexF x28).1)), (.bool true)]) = (Value.agg #[(.int .i64 ((mscanF no k f t).1.1)), (.int .i32 ((mscanF no k f t).1.2.1)), (.int .i32 ((mscanF no k f t).1.2.2.1)), (.bool ((mscanF no k f t).1.2.2.2))])) ∧ ((0 : Int) = (mscanF no k f t).2) := ⟨(by (rw [ms_ok (by omega) (by omega) (by assumption) (by assumption) (by assumption) (by assumption)]; first | done | (rw [hp_take (p := bestT) (by assumption)]; first | done | rfl) | (rw [hp_not (p := bestT) (.inl (by assumption))]; first | done | rfl) | (rw [hp_not (p := bestT) (.inr (by assumption))]; first | done | rfl) | rfl)), (by (rw [ms_ok (by omega) (by omega) (by assumption) (by assumption) (by assumption) (by assumption)]; first | done | (rw [hp_take (p := bestT) (by assumption)]; first | done | rfl) | (rw [hp_not (p := bestT) (.inl (by assumption))]; first | done | rfl) | (rw [hp_not (p := bestT) (.inr (by assumption))]; first | done | rfl) | rfl))⟩
                    exact ⟨tup2 (hE.1) (congrArg (Value.int .i64) hE.2), hb⟩
                  · intro h61
                    refine L_nil ?_
                    refine ⟨rfl, ?_⟩
                    refine I_take 13 (.bool false) rfl (by kernel_rfl) (by kernel_rfl) (by kernel_rfl) (by kernel_rfl) (noPanic_then noPanic_end) (by kernel_rfl) (fun _ => by kernel_rfl) ?_
                    refine I_take 14 (Value.agg #[(.int .i64 no), (.int .i32 ((hexF x19).1)), (.int .i32 ((hexF x28).1)), (.bool false)]) rfl (by kernel_rfl) (by kernel_rfl) (by kernel_rfl) (by kernel_rfl) (noPanic_then noPanic_end) (by kernel_rfl) (fun _ => by kernel_rfl) ?_
                    refine I_all1 15 (by kernel_rfl) ?_
                    refine I_op 15 rfl ?_ rfl
                    refine L_storeA b4 0 [(.int .i64 no), (.int .i32 ((hexF x19).1)), (.int .i32 ((hexF x28).1)), (.bool false)] [(.int .i64 0), (.int .i32 0), (.int .i32 0), (.bool false)] [(.int .i64 no), (.int .i32 ((hexF x19).1)), (.int .i32 ((hexF x28).1)), (.bool false)] 27 (by kernel_rfl) (by kernel_rfl) rfl (by kernel_rfl) o_x2 (by kernel_rfl) rfl ?_
                    intro w62 hW63
                    replace hb := hb.trans (hW63.below g_x2)
                    replace hs := Nat.le_trans hs (Nat.le_of_eq hW63.size.symm)
                    have n_o_x1 := obj_wrote o_x1 hW63 (obj_ne o_x1 o_x2 (by simp))
                    have n_p_f := in_p_f.below hb
                    replace o_x1 := n_o_x1; clear n_o_x1
                    replace p_f := n_p_f; clear n_p_f
                    replace o_x2 := hW63.here
                    refine L_nil ?_
                    refine ⟨rfl, ?_⟩
                    refine I_take 16 (.int .i64 0) rfl (by kernel_rfl) (by kernel_rfl) (by kernel_rfl) (by kernel_rfl) (noPanic_then noPanic_end) (by kernel_rfl) (fun _ => by kernel_rfl) ?_
                    refine I_done (by kernel_rfl) ?_
                    refine thenQ_normal (W_ret ?_)
                    refine end_ret [.cell 2 27, .tmp 3] [(Value.agg #[(.int .i64 no), (.int .i32 ((hexF x19).1)), (.int .i32 ((hexF x28).1)), (.bool false)]), (.int .i64 0)] rfl rfl ⟨⟨⟨b4, 0, none⟩, by kernel_rfl, load_agg [(.int .i64 no), (.int .i32 ((hexF x19).1)), (.int .i32 ((hexF x28).1)), (.bool false)] (by kernel_rfl) (by kernel_rfl) (cells_obj o_x2)⟩, by kernel_rfl, trivial⟩ ?_
                    have hE : ((Value.agg #[(.int .i64 no), (.int .i32 ((hexF x19).1)), (.int .i32 ((hexF x28).1)), (.bool false)]) = (Value.agg #[(.int .i64 ((mscanF no k f t).1.1)), (.int .i32 ((mscanF no k f t).1.2.1)), (.int .i32 ((mscanF no k f t).1.2.2.1)), (.bool ((mscanF no k f t).1.2.2.2))])) ∧ ((0 : Int) = (mscanF no k f t).2) := ⟨(by (rw [ms_ok (by omega) (by omega) (by assumption) (by assumption) (by assumption) (by assumption)]; first | done | (rw [hp_take (p := bestT) (by assumption)]; first | done | rfl) | (rw [hp_not (p := bestT) (.inl (by assumption))]; first | done | rfl) | (rw [hp_not (p := bestT) (.inr (by assumption))]; first | done | rfl) | rfl)), (by (rw [ms_ok (by omega) (by omega) (by assumption) (by assumption) (by assumption) (by assumption)]; first | done | (rw [hp_take (p := bestT) (by assumption)]; first | done | rfl) | (rw [hp_not (p := bestT) (.inl (by assumption))]; first | done | rfl) | (rw [hp_not (p := bestT) (.inr (by assumption))]; first | done | rfl) | rfl))⟩
                    exact ⟨tup2 (hE.1) (congrArg (Value.int .i64) hE.2), hb⟩
                · intro h64
                  replace h64 : (t).length < 10 := by omega
                  refine L_nil ?_
                  refine ⟨rfl, ?_⟩
                  refine I_take 8 (.bool false) rfl (by kernel_rfl) (by kernel_rfl) (by kernel_rfl) (by kernel_rfl) (noPanic_then noPanic_end) (by kernel_rfl) (fun _ => by kernel_rfl) ?_
                  refine I_takeS 9 rfl (by kernel_rfl) (by kernel_rfl) (by kernel_rfl) (by kernel_rfl) (noPanic_then noPanic_end) (by kernel_rfl) ?_
                  refine I_takeS 10 rfl (by kernel_rfl) (by kernel_rfl) (by kernel_rfl) (by kernel_rfl) (noPanic_then noPanic_end) (by kernel_rfl) ?_
                  refine I_takeS 11 rfl (by kernel_rfl) (by kernel_rfl) (by kernel_rfl) (by kernel_rfl) (noPanic_then noPanic_end) (by kernel_rfl) ?_
                  refine I_takeS 12 rfl (by kernel_rfl) (by kernel_rfl) (by kernel_rfl) (by kernel_rfl) (noPanic_then noPanic_end) (by kernel_rfl) ?_
                  refine I_take 13 (.bool false) rfl (by kernel_rfl) (by kernel_rfl) (by kernel_rfl) (by kernel_rfl) (noPanic_then noPanic_end) (by kernel_rfl) (fun _ => by kernel_rfl) ?_
                  refine I_take 14 (Value.agg #[(.int .i64 no), (.int .i32 ((hexF x19).1)), (.int .i32 ((hexF x28).1)), (.bool false)]) rfl (by kernel_rfl) (by kernel_rfl) (by kernel_rfl) (by kernel_rfl) (noPanic_then noPanic_end) (by kernel_rfl) (fun _ => by kernel_rfl) ?_
                  refine I_all1 15 (by kernel_rfl) ?_
                  refine I_op 15 rfl ?_ rfl
                  refine L_storeA b4 0 [(.int .i64 no), (.int .i32 ((hexF x19).1)), (.int .i32 ((hexF x28).1)), (.bool false)] [(.int .i64 0), (.int .i32 0), (.int .i32 0), (.bool false)] [(.int .i64 no), (.int .i32 ((hexF x19).1)), (.int .i32 ((hexF x28).1)), (.bool false)] 27 (by kernel_rfl) (by kernel_rfl) rfl (by kernel_rfl) o_x2 (by kernel_rfl) rfl ?_
                  intro w65 hW66
                  replace hb := hb.trans (hW66.below g_x2)
                  replace hs := Nat.le_trans hs (Nat.le_of_eq hW66.size.symm)
                  have n_o_x1 := obj_wrote o_x1 hW66 (obj_ne o_x1 o_x2 (by simp))
                  have n_p_f := in_p_f.below hb
                  replace o_x1 := n_o_x1; clear n_o_x1
                  replace p_f := n_p_f; clear n_p_f
                  replace o_x2 := hW66.here
                  refine L_nil ?_
                  refine ⟨rfl, ?_⟩
                  refine I_take 16 (.int .i64 0) rfl (by kernel_rfl) (by kernel_rfl) (by kernel_rfl) (by kernel_rfl) (noPanic_then noPanic_end) (by kernel_rfl) (fun _ => by kernel_rfl) ?_
                  refine I_done (by kernel_rfl) ?_
                  refine thenQ_normal (W_ret ?_)
                  refine end_ret [.cell 2 27, .tmp 3] [(Value.agg #[(.int .i64 no), (.int .i32 ((hexF x19).1)), (.int .i32 ((hexF x28).1)), (.bool false)]), (.int .i64 0)] rfl rfl ⟨⟨⟨b4, 0, none⟩, by kernel_rfl, load_agg [(.int .i64 no), (.int .i32 ((hexF x19).1)), (.int .i32 ((hexF x28).1)), (.bool false)] (by kernel_rfl) (by kernel_rfl) (cells_obj o_x2)⟩, by kernel_rfl, trivial⟩ ?_
                  have hE : ((Value.agg #[(.int .i64 no), (.int .i32 ((hexF x19).1)), (.int .i32 ((hexF x28).1)), (.bool false)]) = (Value.agg #[(.int .i64 ((mscanF no k f t).1.1)), (.int .i32 ((mscanF no k f t).1.2.1)), (.int .i32 ((mscanF no k f t).1.2.2.1)), (.bool ((mscanF no k f t).1.2.2.2))])) ∧ ((0 : Int) = (mscanF no k f t).2) := ⟨(by (rw [ms_ok (by omega) (by omega) (by assumption) (by assumption) (by assumption) (by assumption)]; first | done | (rw [hp_take (p := bestT) (by assumption)]; first | done | rfl) | (rw [hp_not (p := bestT) (.inl (by assumption))]; first | done | rfl) | (rw [hp_not (p := bestT) (.inr (by assumption))]; first | done | rfl) | rfl)), (by (rw [ms_ok (by omega) (by omega) (by assumption) (by assumption) (by assumption) (by assumption)]; first | done | (rw [hp_take (p := bestT) (by assumption)]; first | done | rfl) | (rw [hp_not (p := bestT) (.inl (by assumption))]; first | done | rfl) | (rw [hp_not (p := bestT) (.inr (by assumption))]; first | done | rfl) | rfl))⟩
                  exact ⟨tup2 (hE.1) (congrArg (Value.int .i64) hE.2), hb⟩
              · skip
                refine I_op 6 rfl ?_ rfl
                refine L_slen 9 t rfl Tryd.underlying9 (by kernel_rfl) (L_nil ?_)
                refine ⟨rfl, ?_⟩
                refine I_all2 1 7 (by kernel_rfl) ?_ ?_
                · skip
                  refine I_op 1 rfl ?_ rfl
                  refine L_load b1 0 (.int .i64 no) (by kernel_rfl) (by kernel_rfl) (cell_obj o_x1 rfl) (L_nil ?_)
                  refine ⟨rfl, ?_⟩
                  refine I_all1 7 (by kernel_rfl) ?_
                  refine I_op 7 rfl ?_ rfl
                  refine L_cmp .i64 (((t).length : Nat) : Int) ((10 : Nat) : Int) (10 ≤ (t).length) rfl (cmpN_ge ((t).length) 10) (by kernel_rfl) (by kernel_rfl) ?_ ?_
                  · intro h67
                    replace h67 : 10 ≤ (t).length := by omega
                    refine L_nil ?_
                    refine ⟨rfl, ?_⟩
                    refine I_take 8 (.bool true) rfl (by kernel_rfl) (by kernel_rfl) (by kernel_rfl) (by kernel_rfl) (noPanic_then noPanic_end) (by kernel_rfl) (fun _ => by kernel_rfl) ?_
                    refine I_take 9 (.pointer (some ⟨b1, 4, none⟩)) rfl (by kernel_rfl) (by kernel_rfl) (by kernel_rfl) (by kernel_rfl) (noPanic_then noPanic_end) (by kernel_rfl) (fun _ => by kernel_rfl) ?_
                    refine I_all1 10 (by kernel_rfl) ?_
                    refine I_opG 10 rfl ?_ (by kernel_rfl)
                    refine L_load b1 4 (S t) (by kernel_rfl) (by kernel_rfl) (cell_obj o_x1 rfl) (L_nil ?_)
                    refine ⟨rfl, ?_⟩
                    refine I_all1 11 (by kernel_rfl) ?_
                    refine I_opG 11 rfl ?_ (by kernel_rfl)
                    refine L_ssto t 10 Tryd.underlying9 (by kernel_rfl) ⟨.i64, by kernel_rfl⟩ (by omega) (L_nil ?_)
                    refine ⟨rfl, ?_⟩
                    refine I_all1 12 (by kernel_rfl) ?_
                    refine I_opG 12 rfl ?_ (by kernel_rfl)
                    refine L_seq (List.take 10 t) ([91, 66, 69, 83, 84, 32, 70, 73, 84, 93] : List UInt8) rfl (by kernel_rfl) (by kernel_rfl) ?_ ?_
                    · intro h68
                      refine L_nil ?_
                      refine ⟨rfl, ?_⟩
                      refine I_take 13 (.bool true) rfl (by kernel_rfl) (by kernel_rfl) (by kernel_rfl) (by kernel_rfl) (noPanic_then noPanic_end) (by kernel_rfl) (fun _ => by kernel_rfl) ?_
                      refine I_take 14 (Value.agg #[(.int .i64 no), (.int .i32 ((hexF x19).1)), (.int .i32 ((hexF x28).1)), (.bool true)]) rfl (by kernel_rfl) (by kernel_rfl) (by kernel_rfl) (by kernel_rfl) (noPanic_then noPanic_end) (by kernel_rfl) (fun _ => by kernel_rfl) ?_
                      refine I_all1 15 (by kernel_rfl) ?_
                      refine I_op 15 rfl ?_ rfl
                      refine L_storeA b4 0 [(.int .i64 no), (.int .i32 ((hexF x19).1)), (.int .i32 ((hexF x28).1)), (.bool true)] [(.int .i64 0), (.int .i32 0), (.int .i32 0), (.bool false)] [(.int .i64 no), (.int .i32 ((hexF x19).1)), (.int .i32 ((hexF x28).1)), (.bool true)] 27 (by kernel_rfl) (by kernel_rfl) rfl (by kernel_rfl) o_x2 (by kernel_rfl) rfl ?_
                      intro w69 hW70
                      replace hb := hb.trans (hW70.below g_x2)
                      replace hs := Nat.le_trans hs (Nat.le_of_eq hW70.size.symm)
                      have n_o_x1 := obj_wrote o_x1 hW70 (obj_ne o_x1 o_x2 (by simp))
                      have n_p_f := in_p_f.below hb
                      replace o_x1 := n_o_x1; clear n_o_x1
                      replace p_f := n_p_f; clear n_p_f
                      replace o_x2 := hW70.here
                      refine L_nil ?_
                      refine ⟨rfl, ?_⟩
                      refine I_take 16 (.int .i64 0) rfl (by kernel_rfl) (by kernel_rfl) (by kernel_rfl) (by kernel_rfl) (noPanic_then noPanic_end) (by kernel_rfl) (fun _ => by kernel_rfl) ?_
                      refine I_done (by kernel_rfl) ?_
                      refine thenQ_normal (W_ret ?_)
                      refine end_ret [.cell 2 27, .tmp 3] [(Value.agg #[(.int .i64 no), (.int .i32 ((hexF x19).1)), (.int .i32 ((hexF x28).1)), (.bool true)]), (.int .i64 0)] rfl rfl ⟨⟨⟨b4, 0, none⟩, by kernel_rfl, load_agg [(.int .i64 no), (.int .i32 ((hexF x19).1)), (.int .i32 ((hexF x28).1)), (.bool true)] (by kernel_rfl) (by kernel_rfl) (cells_obj o_x2)⟩, by kernel_rfl, trivial⟩ ?_
                      have hE : ((Value.agg #[(.int .i64 no), (.int .i32 ((hexF x19).1)), (.int .i32 ((hexF x28).1)), (.bool true)]) = (Value.agg #[(.int .i64 ((mscanF no k f t).1.1)), (.int .i32 ((mscanF no k f t).1.2.1)), (.int .i32 ((mscanF no k f t).1.2.2.1)), (.bool ((mscanF no k f t).1.2.2.2))])) ∧ ((0 : Int) = (mscanF no k f t).2) := ⟨(by (rw [ms_ok (by omega) (by omega) (by assumption) (by assumption) (by assumption) (by assumption)]; first | done | (rw [hp_take (p := bestT) (by assumption)]; first | done | rfl) | (rw [hp_not (p := bestT) (.inl (by assumption))]; first | done | rfl) | (rw [hp_not (p := bestT) (.inr (by assumption))]; first | done | rfl) | rfl)), (by (rw [ms_ok (by omega) (by omega) (by assumption) (by assumption) (by assumption) (by assumption)]; first | done | (rw [hp_take (p := bestT) (by assumption)]; first | done | rfl) | (rw [hp_not (p := bestT) (.inl (by assumption))]; first | done | rfl) | (rw [hp_not (p := bestT) (.inr (by assumption))]; first | done | rfl) | rfl))⟩
                      exact ⟨tup2 (hE.1) (congrArg (Value.int .i64) hE.2), hb⟩
                    · intro h71
                      refine L_nil ?_
                      refine ⟨rfl, ?_⟩
                      refine I_take 13 (.bool false) rfl (by kernel_rfl) (by kernel_rfl) (by kernel_rfl) (by kernel_rfl) (noPanic_then noPanic_end) (by kernel_rfl) (fun _ => by kernel_rfl) ?_
                      refine I_take 14 (Value.agg #[(.int .i64 no), (.int .i32 ((hexF x19).1)), (.int .i32 ((hexF x28).1)), (.bool false)]) rfl (by kernel_rfl) (by kernel_rfl) (by kernel_rfl) (by kernel_rfl) (noPanic_then noPanic_end) (by kernel_rfl) (fun _ => by kernel_rfl) ?_
                      refine I_all1 15 (by kernel_rfl) ?_
                      refine I_op 15 rfl ?_ rfl
                      refine L_storeA b4 0 [(.int .i64 no), (.int .i32 ((hexF x19).1)), (.int .i32 ((hexF x28).1)), (.bool false)] [(.int .i64 0), (.int .i32 0), (.int .i32 0), (.bool false)] [(.int .i64 no), (.int .i32 ((hexF x19).1)), (.int .i32 ((hexF x28).1)), (.bool false)] 27 (by kernel_rfl) (by kernel_rfl) rfl (by kernel_rfl) o_x2 (by kernel_rfl) rfl ?_
                      intro w72 hW73
                      replace hb := hb.trans (hW73.below g_x2)
                      replace hs := Nat.le_trans hs (Nat.le_of_eq hW73.size.symm)
                      have n_o_x1 := obj_wrote o_x1 hW73 (obj_ne o_x1 o_x2 (by simp))
                      have n_p_f := in_p_f.below hb
                      replace o_x1 := n_o_x1; clear n_o_x1
                      replace p_f := n_p_f; clear n_p_f
                      replace o_x2 := hW73.here
                      refine L_nil ?_
                      refine ⟨rfl, ?_⟩
                      refine I_take 16 (.int .i64 0) rfl (by kernel_rfl) (by kernel_rfl) (by kernel_rfl) (by kernel_rfl) (noPanic_then noPanic_end) (by kernel_rfl) (fun _ => by kernel_rfl) ?_
                      refine I_done (by kernel_rfl) ?_
                      refine thenQ_normal (W_ret ?_)
                      refine end_ret [.cell 2 27, .tmp 3] [(Value.agg #[(.int .i64 no), (.int .i32 ((hexF x19).1)), (.int .i32 ((hexF x28).1)), (.bool false)]), (.int .i64 0)] rfl rfl ⟨⟨⟨b4, 0, none⟩, by kernel_rfl, load_agg [(.int .i64 no), (.int .i32 ((hexF x19).1)), (.int .i32 ((hexF x28).1)), (.bool false)] (by kernel_rfl) (by kernel_rfl) (cells_obj o_x2)⟩, by kernel_rfl, trivial⟩ ?_
                      have hE : ((Value.agg #[(.int .i64 no), (.int .i32 ((hexF x19).1)), (.int .i32 ((hexF x28).1)), (.bool false)]) = (Value.agg #[(.int .i64 ((mscanF no k f t).1.1)), (.int .i32 ((mscanF no k f t).1.2.1)), (.int .i32 ((mscanF no k f t).1.2.2.1)), (.bool ((mscanF no k f t).1.2.2.2))])) ∧ ((0 : Int) = (mscanF no k f t).2) := ⟨(by (rw [ms_ok (by omega) (by omega) (by assumption) (by assumption) (by assumption) (by assumption)]; first | done | (rw [hp_take (p := bestT) (by assumption)]; first | done | rfl) | (rw [hp_not (p := bestT) (.inl (by assumption))]; first | done | rfl) | (rw [hp_not (p := bestT) (.inr (by assumption))]; first | done | rfl) | rfl)), (by (rw [ms_ok (by omega) (by omega) (by assumption) (by assumption) (by assumption) (by assumption)]; first | done | (rw [hp_take (p := bestT) (by assumption)]; first | done | rfl) | (rw [hp_not (p := bestT) (.inl (by assumption))]; first | done | rfl) | (rw [hp_not (p := bestT) (.inr (by assumption))]; first | done | rfl) | rfl))⟩
                      exact ⟨tup2 (hE.1) (congrArg (Value.int .i64) hE.2), hb⟩
                  · intro h74
                    replace h74 : (t).length < 10 := by omega
                    refine L_nil ?_
                    refine ⟨rfl, ?_⟩
                    refine I_take 8 (.bool false) rfl (by kernel_rfl) (by kernel_rfl) (by kernel_rfl) (by kernel_rfl) (noPanic_then noPanic_end) (by kernel_rfl) (fun _ => by kernel_rfl) ?_
                    refine I_takeS 9 rfl (by kernel_rfl) (by kernel_rfl) (by kernel_rfl) (by kernel_rfl) (noPanic_then noPanic_end) (by kernel_rfl) ?_
                    refine I_takeS 10 rfl (by kernel_rfl) (by kernel_rfl) (by kernel_rfl) (by kernel_rfl) (noPanic_then noPanic_end) (by kernel_rfl) ?_
                    refine I_takeS 11 rfl (by kernel_rfl) (by kernel_rfl) (by kernel_rfl) (by kernel_rfl) (noPanic_then noPanic_end) (by kernel_rfl) ?_
                    refine I_takeS 12 rfl (by kernel_rfl) (by kernel_rfl) (by kernel_rfl) (by kernel_rfl) (noPanic_then noPanic_end) (by kernel_rfl) ?_
                    refine I_take 13 (.bool false) rfl (by kernel_rfl) (by kernel_rfl) (by kernel_rfl) (by kernel_rfl) (noPanic_then noPanic_end) (by kernel_rfl) (fun _ => by kernel_rfl) ?_
                    refine I_take 14 (Value.agg #[(.int .i64 no), (.int .i32 ((hexF x19).1)), (.int .i32 ((hexF x28).1)), (.bool false)]) rfl (by kernel_rfl) (by kernel_rfl) (by kernel_rfl) (by kernel_rfl) (noPanic_then noPanic_end) (by kernel_rfl) (fun _ => by kernel_rfl) ?_
                    refine I_all1 15 (by kernel_rfl) ?_
                    refine I_op 15 rfl ?_ rfl
                    refine L_storeA b4 0 [(.int .i64 no), (.int .i32 ((hexF x19).1)), (.int .i32 ((hexF x28).1)), (.bool false)] [(.int .i64 0), (.int .i32 0), (.int .i32 0), (.bool false)] [(.int .i64 no), (.int .i32 ((hexF x19).1)), (.int .i32 ((hexF x28).1)), (.bool false)] 27 (by kernel_rfl) (by kernel_rfl) rfl (by kernel_rfl) o_x2 (by kernel_rfl) rfl ?_
                    intro w75 hW76
                    replace hb := hb.trans (hW76.below g_x2)
                    replace hs := Nat.le_trans hs (Nat.le_of_eq hW76.size.symm)
                    have n_o_x1 := obj_wrote o_x1 hW76 (obj_ne o_x1 o_x2 (by simp))
                    have n_p_f := in_p_f.below hb
                    replace o_x1 := n_o_x1; clear n_o_x1
                    replace p_f := n_p_f; clear n_p_f
                    replace o_x2 := hW76.here
                    refine L_nil ?_
                    refine ⟨rfl, ?_⟩
                    refine I_take 16 (.int .i64 0) rfl (by kernel_rfl) (by kernel_rfl) (by kernel_rfl) (by kernel_rfl) (noPanic_then noPanic_end) (by kernel_rfl) (fun _ => by kernel_rfl) ?_
                    refine I_done (by kernel_rfl) ?_
                    refine thenQ_normal (W_ret ?_)
                    refine end_ret [.cell 2 27, .tmp 3] [(Value.agg #[(.int .i64 no), (.int .i32 ((hexF x19).1)), (.int .i32 ((hexF x28).1)), (.bool false)]), (.int .i64 0)] rfl rfl ⟨⟨⟨b4, 0, none⟩, by kernel_rfl, load_agg [(.int .i64 no), (.int .i32 ((hexF x19).1)), (.int .i32 ((hexF x28).1)), (.bool false)] (by kernel_rfl) (by kernel_rfl) (cells_obj o_x2)⟩, by kernel_rfl, trivial⟩ ?_
                    have hE : ((Value.agg #[(.int .i64 no), (.int .i32 ((hexF x19).1)), (.int .i32 ((hexF x28).1)), (.bool false)]) = (Value.agg #[(.int .i64 ((mscanF no k f t).1.1)), (.int .i32 ((mscanF no k f t).1.2.1)), (.int .i32 ((mscanF no k f t).1.2.2.1)), (.bool ((mscanF no k f t).1.2.2.2))])) ∧ ((0 : Int) = (mscanF no k f t).2) := ⟨(by (rw [ms_ok (by omega) (by omega) (by assumption) (by assumption) (by assumption) (by assumption)]; first | done | (rw [hp_take (p := bestT) (by assumption)]; first | done | rfl) | (rw [hp_not (p := bestT) (.inl (by assumption))]; first | done | rfl) | (rw [hp_not (p := bestT) (.inr (by assumption))]; first | done | rfl) | rfl)), (by (rw [ms_ok (by omega) (by omega) (by assumption) (by assumption) (by assumption) (by assumption)]; first | done | (rw [hp_take (p := bestT) (by assumption)]; first | done | rfl) | (rw [hp_not (p := bestT) (.inl (by assumption))]; first | done | rfl) | (rw [hp_not (p := bestT) (.inr (by assumption))]; first | done | rfl) | rfl))⟩
                    exact ⟨tup2 (hE.1) (congrArg (Value.int .i64) hE.2), hb⟩
                · skip
                  refine I_op 7 rfl ?_ rfl
                  refine L_cmp .i64 (((t).length : Nat) : Int) ((10 : Nat) : Int) (10 ≤ (t).length) rfl (cmpN_ge ((t).length) 10) (by kernel_rfl) (by kernel_rfl) ?_ ?_
                  · intro h77
                    replace h77 : 10 ≤ (t).length := by omega
                    refine L_nil ?_
                    refine ⟨rfl, ?_⟩
                    refine I_take 8 (.bool true) rfl (by kernel_rfl) (by kernel_rfl) (by kernel_rfl) (by kernel_rfl) (noPanic_then noPanic_end) (by kernel_rfl) (fun _ => by kernel_rfl) ?_
                    refine I_take 9 (.pointer (some ⟨b1, 4, none⟩)) rfl (by kernel_rfl) (by kernel_rfl) (by kernel_rfl) (by kernel_rfl) (noPanic_then noPanic_end) (by kernel_rfl) (fun _ => by kernel_rfl) ?_
                    refine I_all2 1 10 (by kernel_rfl) ?_ ?_
                    · skip
                      refine I_op 1 rfl ?_ rfl
                      refine L_load b1 0 (.int .i64 no) (by kernel_rfl) (by kernel_rfl) (cell_obj o_x1 rfl) (L_nil ?_)
                      refine ⟨rfl, ?_⟩
                      refine I_all1 10 (by kernel_rfl) ?_
                      refine I_opG 10 rfl ?_ (by kernel_rfl)
                      refine L_load b1 4 (S t) (by kernel_rfl) (by kernel_rfl) (cell_obj o_x1 rfl) (L_nil ?_)
                      refine ⟨rfl, ?_⟩
                      refine I_all1 11 (by kernel_rfl) ?_
                      refine I_opG 11 rfl ?_ (by kernel_rfl)
                      refine L_ssto t 10 Tryd.underlying9 (by kernel_rfl) ⟨.i64, by kernel_rfl⟩ (by omega) (L_nil ?_)
                      refine ⟨rfl, ?_⟩
                      refine I_all1 12 (by kernel_rfl) ?_
                      refine I_opG 12 rfl ?_ (by kernel_rfl)
                      refine L_seq (List.take 10 t) ([91, 66, 69, 83, 84, 32, 70, 73, 84, 93] : List UInt8) rfl (by kernel_rfl) (by kernel_rfl) ?_ ?_
                      · intro h78
                        refine L_nil ?_
                        refine ⟨rfl, ?_⟩
                        refine I_take 13 (.bool true) rfl (by kernel_rfl) (by kernel_rfl) (by kernel_rfl) (by kernel_rfl) (noPanic_then noPanic_end) (by kernel_rfl) (fun _ => by kernel_rfl) ?_
                        refine I_take 14 (Value.agg #[(.int .i64 no), (.int .i32 ((hexF x19).1)), (.int .i32 ((hexF x28).1)), (.bool true)]) rfl (by kernel_rfl) (by kernel_rfl) (by kernel_rfl) (by kernel_rfl) (noPanic_then noPanic_end) (by kernel_rfl) (fun _ => by kernel_rfl) ?_
                        refine I_all1 15 (by kernel_rfl) ?_
                        refine I_op 15 rfl ?_ rfl
                        refine L_storeA b4 0 [(.int .i64 no), (.int .i32 ((hexF x19).1)), (.int .i32 ((hexF x28).1)), (.bool true)] [(.int .i64 0), (.int .i32 0), (.int .i32 0), (.bool false)] [(.int .i64 no), (.int .i32 ((hexF x19).1)), (.int .i32 ((hexF x28).1)), (.bool true)] 27 (by kernel_rfl) (by kernel_rfl) rfl (by kernel_rfl) o_x2 (by kernel_rfl) rfl ?_
                        intro w79 hW80
                        replace hb := hb.trans (hW80.below g_x2)
                        replace hs := Nat.le_trans hs (Nat.le_of_eq hW80.size.symm)
                        have n_o_x1 := obj_wrote o_x1 hW80 (obj_ne o_x1 o_x2 (by simp))
                        have n_p_f := in_p_f.below hb
                        replace o_x1 := n_o_x1; clear n_o_x1
                        replace p_f := n_p_f; clear n_p_f
                        replace o_x2 := hW80.here
                        refine L_nil ?_
                        refine ⟨rfl, ?_⟩
                        refine I_take 16 (.int .i64 0) rfl (by kernel_rfl) (by kernel_rfl) (by kernel_rfl) (by kernel_rfl) (noPanic_then noPanic_end) (by kernel_rfl) (fun _ => by kernel_rfl) ?_
                        refine I_done (by kernel_rfl) ?_
                        refine thenQ_normal (W_ret ?_)
                        refine end_ret [.cell 2 27, .tmp 3] [(Value.agg #[(.int .i64 no), (.int .i32 ((hexF x19).1)), (.int .i32 ((hexF x28).1)), (.bool true)]), (.int .i64 0)] rfl rfl ⟨⟨⟨b4, 0, none⟩, by kernel_rfl, load_agg [(.int .i64 no), (.int .i32 ((hexF x19).1)), (.int .i32 ((hexF x28).1)), (.bool true)] (by kernel_rfl) (by kernel_rfl) (cells_obj o_x2)⟩, by kernel_rfl, trivial⟩ ?_
                        have hE : ((Value.agg #[(.int .i64 no), (.int .i32 ((hexF x19).1)), (.int .i32 ((hexF x28).1)), (.bool true)]) = (Value.agg #[(.int .i64 ((mscanF no k f t).1.1)), (.int .i32 ((mscanF no k f t).1.2.1)), (.int .i32 ((mscanF no k f t).1.2.2.1)), (.bool ((mscanF no k f t).1.2.2.2))])) ∧ ((0 : Int) = (mscanF no k f t).2) := ⟨(by (rw [ms_ok (by omega) (by omega) (by assumption) (by assumption) (by assumption) (by assumption)]; first | done | (rw [hp_take (p := bestT) (by assumption)]; first | done | rfl) | (rw [hp_not (p := bestT) (.inl (by assumption))]; first | done | rfl) | (rw [hp_not (p := bestT) (.inr (by assumption))]; first | done | rfl) | rfl)), (by (rw [ms_ok (by omega) (by omega) (by assumption) (by assumption) (by assumption) (by assumption)]; first | done | (rw [hp_take (p := bestT) (by assumption)]; first | done | rfl) | (rw [hp_not (p := bestT) (.inl (by assumption))]; first | done | rfl) | (rw [hp_not (p := bestT) (.inr (by assumption))]; first | done | rfl) | rfl))⟩
                        exact ⟨tup2 (hE.1) (congrArg (Value.int .i64) hE.2), hb⟩
                      · intro h81
                        refine L_nil ?_
                        refine ⟨rfl, ?_⟩
                        refine I_take 13 (.bool false) rfl (by kernel_rfl) (by kernel_rfl) (by kernel_rfl) (by kernel_rfl) (noPanic_then noPanic_end) (by kernel_rfl) (fun _ => by kernel_rfl) ?_
                        refine I_take 14 (Value.agg #[(.int .i64 no), (.int .i32 ((hexF x19).1)), (.int .i32 ((hexF x28).1)), (.bool false)]) rfl (by kernel_rfl) (by kernel_rfl) (by kernel_rfl) (by kernel_rfl) (noPanic_then noPanic_end) (by kernel_rfl) (fun _ => by kernel_rfl) ?_
                        refine I_all1 15 (by kernel_rfl) ?_
                        refine I_op 15 rfl ?_ rfl
                        refine L_storeA b4 0 [(.int .i64 no), (.int .i32 ((hexF x19).1)), (.int .i32 ((hexF x28).1)), (.bool false)] [(.int .i64 0), (.int .i32 0), (.int .i32 0), (.bool false)] [(.int .i64 no), (.int .i32 ((hexF x19).1)), (.int .i32 ((hexF x28).1)), (.bool false)] 27 (by kernel_rfl) (by kernel_rfl) rfl (by kernel_rfl) o_x2 (by kernel_rfl) rfl ?_
                        intro w82 hW83
                        replace hb := hb.trans (hW83.below g_x2)
                        replace hs := Nat.le_trans hs (Nat.le_of_eq hW83.size.symm)
                        have n_o_x1 := obj_wrote o_x1 hW83 (obj_ne o_x1 o_x2 (by simp))
                        have n_p_f := in_p_f.below hb
                        replace o_x1 := n_o_x1; clear n_o_x1
                        replace p_f := n_p_f; clear n_p_f
                        replace o_x2 := hW83.here
                        refine L_nil ?_
                        refine ⟨rfl, ?_⟩
                        refine I_take 16 (.int .i64 0) rfl (by kernel_rfl) (by kernel_rfl) (by kernel_rfl) (by kernel_rfl) (noPanic_then noPanic_end) (by kernel_rfl) (fun _ => by kernel_rfl) ?_
                        refine I_done (by kernel_rfl) ?_
                        refine thenQ_normal (W_ret ?_)
                        refine end_ret [.cell 2 27, .tmp 3] [(Value.agg #[(.int .i64 no), (.int .i32 ((hexF x19).1)), (.int .i32 ((hexF x28).1)), (.bool false)]), (.int .i64 0)] rfl rfl ⟨⟨⟨b4, 0, none⟩, by kernel_rfl, load_agg [(.int .i64 no), (.int .i32 ((hexF x19).1)), (.int .i32 ((hexF x28).1)), (.bool false)] (by kernel_rfl) (by kernel_rfl) (cells_obj o_x2)⟩, by kernel_rfl, trivial⟩ ?_
                        have hE : ((Value.agg #[(.int .i64 no), (.int .i32 ((hexF x19).1)), (.int .i32 ((hexF x28).1)), (.bool false)]) = (Value.agg #[(.int .i64 ((mscanF no k f t).1.1)), (.int .i32 ((mscanF no k f t).1.2.1)), (.int .i32 ((mscanF no k f t).1.2.2.1)), (.bool ((mscanF no k f t).1.2.2.2))])) ∧ ((0 : Int) = (mscanF no k f t).2) := ⟨(by (rw [ms_ok (by omega) (by omega) (by assumption) (by assumption) (by assumption) (by assumption)]; first | done | (rw [hp_take (p := bestT) (by assumption)]; first | done | rfl) | (rw [hp_not (p := bestT) (.inl (by assumption))]; first | done | rfl) | (rw [hp_not (p := bestT) (.inr (by assumption))]; first | done | rfl) | rfl)), (by (rw [ms_ok (by omega) (by omega) (by assumption) (by assumption) (by assumption) (by assumption)]; first | done | (rw [hp_take (p := bestT) (by assumption)]; first | done | rfl) | (rw [hp_not (p := bestT) (.inl (by assumption))]; first | done | rfl) | (rw [hp_not (p := bestT) (.inr (by assumption))]; first | done | rfl) | rfl))⟩
                        exact ⟨tup2 (hE.1) (congrArg (Value.int .i64) hE.2), hb⟩
                    · skip
                      refine I_opG 10 rfl ?_ (by kernel_rfl)
                      refine L_load b1 4 (S t) (by kernel_rfl) (by kernel_rfl) (cell_obj o_x1 rfl) (L_nil ?_)
                      refine ⟨rfl, ?_⟩
                      refine I_all2 1 11 (by kernel_rfl) ?_ ?_
                      · skip
                        refine I_op 1 rfl ?_ rfl
                        refine L_load b1 0 (.int .i64 no) (by kernel_rfl) (by kernel_rfl) (cell_obj o_x1 rfl) (L_nil ?_)
                        refine ⟨rfl, ?_⟩
                        refine I_all1 11 (by kernel_rfl) ?_
                        refine I_opG 11 rfl ?_ (by kernel_rfl)
                        refine L_ssto t 10 Tryd.underlying9 (by kernel_rfl) ⟨.i64, by kernel_rfl⟩ (by omega) (L_nil ?_)
                        refine ⟨rfl, ?_⟩
                        refine I_all1 12 (by kernel_rfl) ?_
                        refine I_opG 12 rfl ?_ (by kernel_rfl)
                        refine L_seq (List.take 10 t) ([91, 66, 69, 83, 84, 32, 70, 73, 84, 93] : List UInt8) rfl (by kernel_rfl) (by kernel_rfl) ?_ ?_
                        · intro h84
                          refine L_nil ?_
                          refine ⟨rfl, ?_⟩
                          refine I_take 13 (.bool true) rfl (by kernel_rfl) (by kernel_rfl) (by kernel_rfl) (by kernel_rfl) (noPanic_then noPanic_end) (by kernel_rfl) (fun _ => by kernel_rfl) ?_
                          refine I_take 14 (Value.agg #[(.int .i64 no), (.int .i32 ((hexF x19).1)), (.int .i32 ((hexF x28).1)), (.bool true)]) rfl (by kernel_rfl) (by kernel_rfl) (by kernel_rfl) (by kernel_rfl) (noPanic_then noPanic_end) (by kernel_rfl) (fun _ => by kernel_rfl) ?_
                          refine I_all1 15 (by kernel_rfl) ?_
                          refine I_op 15 rfl ?_ rfl
                          refine L_storeA b4 0 [(.int .i64 no), (.int .i32 ((hexF x19).1)), (.int .i32 ((hexF x28).1)), (.bool true)] [(.int .i64 0), (.int .i32 0), (.int .i32 0), (.bool false)] [(.int .i64 no), (.int .i32 ((hexF x19).1)), (.int .i32 ((hexF x28).1)), (.bool true)] 27 (by kernel_rfl) (by kernel_rfl) rfl (by kernel_rfl) o_x2 (by kernel_rfl) rfl ?_
                          intro w85 hW86
                          replace hb := hb.trans (hW86.below g_x2)
                          replace hs := Nat.le_trans hs (Nat.le_of_eq hW86.size.symm)
                          have n_o_x1 := obj_wrote o_x1 hW86 (obj_ne o_x1 o_x2 (by simp))
                          have n_p_f := in_p_f.below hb
                          replace o_x1 := n_o_x1; clear n_o_x1
                          replace p_f := n_p_f; clear n_p_f
                          replace o_x2 := hW86.here
                          refine L_nil ?_
                          refine ⟨rfl, ?_⟩
                          refine I_take 16 (.int .i64 0) rfl (by kernel_rfl) (by kernel_rfl) (by kernel_rfl) (by kernel_rfl) (noPanic_then noPanic_end) (by kernel_rfl) (fun _ => by kernel_rfl) ?_
                          refine I_done (by kernel_rfl) ?_
                          refine thenQ_normal (W_ret ?_)
                          refine end_ret [.cell 2 27, .tmp 3] [(Value.agg #[(.int .i64 no), (.int .i32 ((hexF x19).1)), (.int .i32 ((hexF x28).1)), (.bool true)]), (.int .i64 0)] rfl rfl ⟨⟨⟨b4, 0, none⟩, by kernel_rfl, load_agg [(.int .i64 no), (.int .i32 ((hexF x19).1)), (.int .i32 ((hexF x28).1)), (.bool true)] (by kernel_rfl) (by kernel_rfl) (cells_obj o_x2)⟩, by kernel_rfl, trivial⟩ ?_
                          have hE : ((Value.agg #[(.int .i64 no), (.int .i32 ((hexF x19).1)), (.int .i32 ((hexF x28).1)), (.bool true)]) = (Value.agg #[(.int .i64 ((mscanF no k f t).1.1)), (.int .i32 ((mscanF no k f t).1.2.1)), (.int .i32 ((mscanF no k f t).1.2.2.1)), (.bool ((mscanF no k f t).1.2.2.2))])) ∧ ((0 : Int) = (mscanF no k f t).2) := ⟨(by (rw [ms_ok (by omega) (by omega) (by assumption) (by assumption) (by assumption) (by assumption)]; first | done | (rw [hp_take (p := bestT) (by assumption)]; first | done | rfl) | (rw [hp_not (p := bestT) (.inl (by assumption))]; first | done | rfl) | (rw [hp_not (p := bestT) (.inr (by assumption))]; first | done | rfl) | rfl)), (by (rw [ms_ok (by omega) (by omega) (by assumption) (by assumption) (by assumption) (by assumption)]; first | done | (rw [hp_take (p := bestT) (by assumption)]; first | done | rfl) | (rw [hp_not (p := bestT) (.inl (by assumption))]; first | done | rfl) | (rw [hp_not (p := bestT) (.inr (by assumption))]; first | done | rfl) | rfl))⟩
                          exact ⟨tup2 (hE.1) (congrArg (Value.int .i64) hE.2), hb⟩
                        · intro h87
                          refine L_nil ?_
                          refine ⟨rfl, ?_⟩
                          refine I_take 13 (.bool false) rfl (by kernel_rfl) (by kernel_rfl) (by kernel_rfl) (by kernel_rfl) (noPanic_then noPanic_end) (by kernel_rfl) (fun _ => by kernel_rfl) ?_
                          refine I_take 14 (Value.agg #[(.int .i64 no), (.int .i32 ((hexF x19).1)), (.int .i32 ((hexF x28).1)), (.bool false)]) rfl (by kernel_rfl) (by kernel_rfl) (by kernel_rfl) (by kernel_rfl) (noPanic_then noPanic_end) (by kernel_rfl) (fun _ => by kernel_rfl) ?_
                          refine I_all1 15 (by kernel_rfl) ?_
                          refine I_op 15 rfl ?_ rfl
                          refine L_storeA b4 0 [(.int .i64 no), (.int .i32 ((hexF x19).1)), (.int .i32 ((hexF x28).1)), (.bool false)] [(.int .i64 0), (.int .i32 0), (.int .i32 0), (.bool false)] [(.int .i64 no), (.int .i32 ((hexF x19).1)), (.int .i32 ((hexF x28).1)), (.bool false)] 27 (by kernel_rfl) (by kernel_rfl) rfl (by kernel_rfl) o_x2 (by kernel_rfl) rfl ?_
                          intro w88 hW89
                          replace hb := hb.trans (hW89.below g_x2)
                          replace hs := Nat.le_trans hs (Nat.le_of_eq hW89.size.symm)
                          have n_o_x1 := obj_wrote o_x1 hW89 (obj_ne o_x1 o_x2 (by simp))
                          have n_p_f := in_p_f.below hb
                          replace o_x1 := n_o_x1; clear n_o_x1
                          replace p_f := n_p_f; clear n_p_f
                          replace o_x2 := hW89.here
                          refine L_nil ?_
                          refine ⟨rfl, ?_⟩
                          refine I_take 16 (.int .i64 0) rfl (by kernel_rfl) (by kernel_rfl) (by kernel_rfl) (by kernel_rfl) (noPanic_then noPanic_end) (by kernel_rfl) (fun _ => by kernel_rfl) ?_
                          refine I_done (by kernel_rfl) ?_
                          refine thenQ_normal (W_ret ?_)
                          refine end_ret [.cell 2 27, .tmp 3] [(Value.agg #[(.int .i64 no), (.int .i32 ((hexF x19).1)), (.int .i32 ((hexF x28).1)), (.bool false)]), (.int .i64 0)] rfl rfl ⟨⟨⟨b4, 0, none⟩, by kernel_rfl, load_agg [(.int .i64 no), (.int .i32 ((hexF x19).1)), (.int .i32 ((hexF x28).1)), (.bool false)] (by kernel_rfl) (by kernel_rfl) (cells_obj o_x2)⟩, by kernel_rfl, trivial⟩ ?_
                          have hE : ((Value.agg #[(.int .i64 no), (.int .i32 ((hexF x19).1)), (.int .i32 ((hexF x28).1)), (.bool false)]) = (Value.agg #[(.int .i64 ((mscanF no k f t).1.1)), (.int .i32 ((mscanF no k f t).1.2.1)), (.int .i32 ((mscanF no k f t).1.2.2.1)), (.bool ((mscanF no k f t).1.2.2.2))])) ∧ ((0 : Int) = (mscanF no k f t).2) := ⟨(by (rw [ms_ok (by omega) (by omega) (by assumption) (by assumption) (by assumption) (by assumption)]; first | done | (rw [hp_take (p := bestT) (by assumption)]; first | done | rfl) | (rw [hp_not (p := bestT) (.inl (by assumption))]; first | done | rfl) | (rw [hp_not (p := bestT) (.inr (by assumption))]; first | done | rfl) | rfl)), (by (rw [ms_ok (by omega) (by omega) (by assumption) (by assumption) (by assumption) (by assumption)]; first | done | (rw [hp_take (p := bestT) (by assumption)]; first | done | rfl) | (rw [hp_not (p := bestT) (.inl (by assumption))]; first | done | rfl) | (rw [hp_not (p := bestT) (.inr (by assumption))]; first | done | rfl) | rfl))⟩
                          exact ⟨tup2 (hE.1) (congrArg (Value.int .i64) hE.2), hb⟩
                      · skip
                        refine I_opG 11 rfl ?_ (by kernel_rfl)
                        refine L_ssto t 10 Tryd.underlying9 (by kernel_rfl) ⟨.i64, by kernel_rfl⟩ (by omega) (L_nil ?_)
                        refine ⟨rfl, ?_⟩
                        refine I_all2 1 12 (by kernel_rfl) ?_ ?_
                        · skip
                          refine I_op 1 rfl ?_ rfl
                          refine L_load b1 0 (.int .i64 no) (by kernel_rfl) (by kernel_rfl) (cell_obj o_x1 rfl) (L_nil ?_)
                          refine ⟨rfl, ?_⟩
                          refine I_all1 12 (by kernel_rfl) ?_
                          refine I_opG 12 rfl ?_ (by kernel_rfl)
                          refine L_seq (List.take 10 t) ([91, 66, 69, 83, 84, 32, 70, 73, 84, 93] : List UInt8) rfl (by kernel_rfl) (by kernel_rfl) ?_ ?_
                          · intro h90
                            refine L_nil ?_
                            refine ⟨rfl, ?_⟩
                            refine I_take 13 (.bool true) rfl (by kernel_rfl) (by kernel_rfl) (by kernel_rfl) (by kernel_rfl) (noPanic_then noPanic_end) (by kernel_rfl) (fun _ => by kernel_rfl) ?_
                            refine I_take 14 (Value.agg #[(.int .i64 no), (.int .i32 ((hexF x19).1)), (.int .i32 ((hexF x28).1)), (.bool true)]) rfl (by kernel_rfl) (by kernel_rfl) (by kernel_rfl) (by kernel_rfl) (noPanic_then noPanic_end) (by kernel_rfl) (fun _ => by kernel_rfl) ?_
                            refine I_all1 15 (by kernel_rfl) ?_
                            refine I_op 15 rfl ?_ rfl
                            refine L_storeA b4 0 [(.int .i64 no), (.int .i32 ((hexF x19).1)), (.int .i32 ((hexF x28).1)), (.bool true)] [(.int .i64 0), (.int .i32 0), (.int .i32 0), (.bool false)] [(.int .i64 no), (.int .i32 ((hexF x19).1)), (.int .i32 ((hexF x28).1)), (.bool true)] 27 (by kernel_rfl) (by kernel_rfl) rfl (by kernel_rfl) o_x2 (by kernel_rfl) rfl ?_
                            intro w91 hW92
                            replace hb := hb.trans (hW92.below g_x2)
                            replace hs := Nat.le_trans hs (Nat.le_of_eq hW92.size.symm)
                            have n_o_x1 := obj_wrote o_x1 hW92 (obj_ne o_x1 o_x2 (by simp))
                            have n_p_f := in_p_f.below hb
                            replace o_x1 := n_o_x1; clear n_o_x1
                            replace p_f := n_p_f; clear n_p_f
                            replace o_x2 := hW92.here
                            refine L_nil ?_
                            refine ⟨rfl, ?_⟩
                            refine I_take 16 (.int .i64 0) rfl (by kernel_rfl) (by kernel_rfl) (by kernel_rfl) (by kernel_rfl) (noPanic_then noPanic_end) (by kernel_rfl) (fun _ => by kernel_rfl) ?_
                            refine I_done (by kernel_rfl) ?_
                            refine thenQ_normal (W_ret ?_)
                            refine end_ret [.cell 2 27, .tmp 3] [(Value.agg #[(.int .i64 no), (.int .i32 ((hexF x19).1)), (.int .i32 ((hexF x28).1)), (.bool true)]), (.int .i64 0)] rfl rfl ⟨⟨⟨b4, 0, none⟩, by kernel_rfl, load_agg [(.int .i64 no), (.int .i32 ((hexF x19).1)), (.int .i32 ((hexF x28).1)), (.bool true)] (by kernel_rfl) (by kernel_rfl) (cells_obj o_x2)⟩, by kernel_rfl, trivial⟩ ?_
                            have hE : ((Value.agg #[(.int .i64 no), (.int .i32 ((hexF x19).1)), (.int .i32 ((hexF x28).1)), (.bool true)]) = (Value.agg #[(.int .i64 ((mscanF no k f t).1.1)), (.int .i32 ((mscanF no k f t).1.2.1)), (.int .i32 ((mscanF no k f t).1.2.2.1)), (.bool ((mscanF no k f t).1.2.2.2))])) ∧ ((0 : Int) = (mscanF no k f t).2) := ⟨(by (rw [ms_ok (by omega) (by omega) (by assumption) (by assumption) (by assumption) (by assumption)]; first | done | (rw [hp_take (p := bestT) (by assumption)]; first | done | rfl) | (rw [hp_not (p := bestT) (.inl (by assumption))]; first | done | rfl) | (rw [hp_not (p := bestT) (.inr (by assumption))]; first | done | rfl) | rfl)), (by (rw [ms_ok (by omega) (by omega) (by assumption) (by assumption) (by assumption) (by assumption)]; first | done | (rw [hp_take (p := bestT) (by assumption)]; first | done | rfl) | (rw [hp_not (p := bestT) (.inl (by assumption))]; first | done | rfl) | (rw [hp_not (p := bestT) (.inr (by assumption))]; first | done | rfl) | rfl))⟩
                            exact ⟨tup2 (hE.1) (congrArg (Value.int .i64) hE.2), hb⟩
                          · intro h93
                            refine L_nil ?_
                            refine ⟨rfl, ?_⟩
                            refine I_take 13 (.bool false) rfl (by kernel_rfl) (by kernel_rfl) (by kernel_rfl) (by kernel_rfl) (noPanic_then noPanic_end) (by kernel_rfl) (fun _ => by kernel_rfl) ?_
                            refine I_take 14 (Value.agg #[(.int .i64 no), (.int .i32 ((hexF x19).1)), (.int .i32 ((hexF x28).1)), (.bool false)]) rfl (by kernel_rfl) (by kernel_rfl) (by kernel_rfl) (by kernel_rfl) (noPanic_then noPanic_end) (by kernel_rfl) (fun _ => by kernel_rfl) ?_
                            refine I_all1 15 (by kernel_rfl) ?_
                            refine I_op 15 rfl ?_ rfl
                            refine L_storeA b4 0 [(.int .i64 no), (.int .i32 ((hexF x19).1)), (.int .i32 ((hexF x28).1)), (.bool false)] [(.int .i64 0), (.int .i32 0), (.int .i32 0), (.bool false)] [(.int .i64 no), (.int .i32 ((hexF x19).1)), (.int .i32 ((hexF x28).1)), (.bool false)] 27 (by kernel_rfl) (by kernel_rfl) rfl (by kernel_rfl) o_x2 (by kernel_rfl) rfl ?_
                            intro w94 hW95
                            replace hb := hb.trans (hW95.below g_x2)
                            replace hs := Nat.le_trans hs (Nat.le_of_eq hW95.size.symm)
                            have n_o_x1 := obj_wrote o_x1 hW95 (obj_ne o_x1 o_x2 (by simp))
                            have n_p_f := in_p_f.below hb
                            replace o_x1 := n_o_x1; clear n_o_x1
                            replace p_f := n_p_f; clear n_p_f
                            replace o_x2 := hW95.here
                            refine L_nil ?_
                            refine ⟨rfl, ?_⟩
                            refine I_take 16 (.int .i64 0) rfl (by kernel_rfl) (by kernel_rfl) (by kernel_rfl) (by kernel_rfl) (noPanic_then noPanic_end) (by kernel_rfl) (fun _ => by kernel_rfl) ?_
                            refine I_done (by kernel_rfl) ?_
                            refine thenQ_normal (W_ret ?_)
                            refine end_ret [.cell 2 27, .tmp 3] [(Value.agg #[(.int .i64 no), (.int .i32 ((hexF x19).1)), (.int .i32 ((hexF x28).1)), (.bool false)]), (.int .i64 0)] rfl rfl ⟨⟨⟨b4, 0, none⟩, by kernel_rfl, load_agg [(.int .i64 no), (.int .i32 ((hexF x19).1)), (.int .i32 ((hexF x28).1)), (.bool false)] (by kernel_rfl) (by kernel_rfl) (cells_obj o_x2)⟩, by kernel_rfl, trivial⟩ ?_
                            have hE : ((Value.agg #[(.int .i64 no), (.int .i32 ((hexF x19).1)), (.int .i32 ((hexF x28).1)), (.bool false)]) = (Value.agg #[(.int .i64 ((mscanF no k f t).1.1)), (.int .i32 ((mscanF no k f t).1.2.1)), (.int .i32 ((mscanF no k f t).1.2.2.1)), (.bool ((mscanF no k f t).1.2.2.2))])) ∧ ((0 : Int) = (mscanF no k f t).2) := ⟨(by (rw [ms_ok (by omega) (by omega) (by assumption) (by assumption) (by assumption) (by assumption)]; first | done | (rw [hp_take (p := bestT) (by assumption)]; first | done | rfl) | (rw [hp_not (p := bestT) (.inl (by assumption))]; first | done | rfl) | (rw [hp_not (p := bestT) (.inr (by assumption))]; first | done | rfl) | rfl)), (by (rw [ms_ok (by omega) (by omega) (by assumption) (by assumption) (by assumption) (by assumption)]; first | done | (rw [hp_take (p := bestT) (by assumption)]; first | done | rfl) | (rw [hp_not (p := bestT) (.inl (by assumption))]; first | done | rfl) | (rw [hp_not (p := bestT) (.inr (by assumption))]; first | done | rfl) | rfl))⟩
                            exact ⟨tup2 (hE.1) (congrArg (Value.int .i64) hE.2), hb⟩
                        · skip
                          refine I_opG 12 rfl ?_ (by kernel_rfl)
                          refine L_seq (List.take 10 t) ([91, 66, 69, 83, 84, 32, 70, 73, 84, 93] : List UInt8) rfl (by kernel_rfl) (by kernel_rfl) ?_ ?_
                          · intro h96
                            refine L_nil ?_
                            refine ⟨rfl, ?_⟩
                            refine I_take 13 (.bool true) rfl (by kernel_rfl) (by kernel_rfl) (by kernel_rfl) (by kernel_rfl) (noPanic_then noPanic_end) (by kernel_rfl) (fun _ => by kernel_rfl) ?_
                            refine I_all1 1 (by kernel_rfl) ?_
                            refine I_op 1 rfl ?_ rfl
                            refine L_load b1 0 (.int .i64 no) (by kernel_rfl) (by kernel_rfl) (cell_obj o_x1 rfl) (L_nil ?_)
                            refine ⟨rfl, ?_⟩
                            refine I_take 14 (Value.agg #[(.int .i64 no), (.int .i32 ((hexF x19).1)), (.int .i32 ((hexF x28).1)), (.bool true)]) rfl (by kernel_rfl) (by kernel_rfl) (by kernel_rfl) (by kernel_rfl) (noPanic_then noPanic_end) (by kernel_rfl) (fun _ => by kernel_rfl) ?_
                            refine I_all1 15 (by kernel_rfl) ?_
                            refine I_op 15 rfl ?_ rfl
                            refine L_storeA b4 0 [(.int .i64 no), (.int .i32 ((hexF x19).1)), (.int .i32 ((hexF x28).1)), (.bool true)] [(.int .i64 0), (.int .i32 0), (.int .i32 0), (.bool false)] [(.int .i64 no), (.int .i32 ((hexF x19).1)), (.int .i32 ((hexF x28).1)), (.bool true)] 27 (by kernel_rfl) (by kernel_rfl) rfl (by kernel_rfl) o_x2 (by kernel_rfl) rfl ?_
                            intro w97 hW98
                            replace hb := hb.trans (hW98.below g_x2)
                            replace hs := Nat.le_trans hs (Nat.le_of_eq hW98.size.symm)
                            have n_o_x1 := obj_wrote o_x1 hW98 (obj_ne o_x1 o_x2 (by simp))
                            have n_p_f := in_p_f.below hb
                            replace o_x1 := n_o_x1; clear n_o_x1
                            replace p_f := n_p_f; clear n_p_f
                            replace o_x2 := hW98.here
                            refine L_nil ?_
                            refine ⟨rfl, ?_⟩
                            refine I_take 16 (.int .i64 0) rfl (by kernel_rfl) (by kernel_rfl) (by kernel_rfl) (by kernel_rfl) (noPanic_then noPanic_end) (by kernel_rfl) (fun _ => by kernel_rfl) ?_
                            refine I_done (by kernel_rfl) ?_
                            refine thenQ_normal (W_ret ?_)
                            refine end_ret [.cell 2 27, .tmp 3] [(Value.agg #[(.int .i64 no), (.int .i32 ((hexF x19).1)), (.int .i32 ((hexF x28).1)), (.bool true)]), (.int .i64 0)] rfl rfl ⟨⟨⟨b4, 0, none⟩, by kernel_rfl, load_agg [(.int .i64 no), (.int .i32 ((hexF x19).1)), (.int .i32 ((hexF x28).1)), (.bool true)] (by kernel_rfl) (by kernel_rfl) (cells_obj o_x2)⟩, by kernel_rfl, trivial⟩ ?_
                            have hE : ((Value.agg #[(.int .i64 no), (.int .i32 ((hexF x19).1)), (.int .i32 ((hexF x28).1)), (.bool true)]) = (Value.agg #[(.int .i64 ((mscanF no k f t).1.1)), (.int .i32 ((mscanF no k f t).1.2.1)), (.int .i32 ((mscanF no k f t).1.2.2.1)), (.bool ((mscanF no k f t).1.2.2.2))])) ∧ ((0 : Int) = (mscanF no k f t).2) := ⟨(by (rw [ms_ok (by omega) (by omega) (by assumption) (by assumption) (by assumption) (by assumption)]; first | done | (rw [hp_take (p := bestT) (by assumption)]; first | done | rfl) | (rw [hp_not (p := bestT) (.inl (by assumption))]; first | done | rfl) | (rw [hp_not (p := bestT) (.inr (by assumption))]; first | done | rfl) | rfl)), (by (rw [ms_ok (by omega) (by omega) (by assumption) (by assumption) (by assumption) (by assumption)]; first | done | (rw [hp_take (p := bestT) (by assumption)]; first | done | rfl) | (rw [hp_not (p := bestT) (.inl (by assumption))]; first | done | rfl) | (rw [hp_not (p := bestT) (.inr (by assumption))]; first | done | rfl) | rfl))⟩
                            exact ⟨tup2 (hE.1) (congrArg (Value.int .i64) hE.2), hb⟩
                          · intro h99
                            refine L_nil ?_
                            refine ⟨rfl, ?_⟩
                            refine I_take 13 (.bool false) rfl (by kernel_rfl) (by kernel_rfl) (by kernel_rfl) (by kernel_rfl) (noPanic_then noPanic_end) (by kernel_rfl) (fun _ => by kernel_rfl) ?_
                            refine I_all1 1 (by kernel_rfl) ?_
                            refine I_op 1 rfl ?_ rfl
                            refine L_load b1 0 (.int .i64 no) (by kernel_rfl) (by kernel_rfl) (cell_obj o_x1 rfl) (L_nil ?_)
                            refine ⟨rfl, ?_⟩
                            refine I_take 14 (Value.agg #[(.int .i64 no), (.int .i32 ((hexF x19).1)), (.int .i32 ((hexF x28).1)), (.bool false)]) rfl (by kernel_rfl) (by kernel_rfl) (by kernel_rfl) (by kernel_rfl) (noPanic_then noPanic_end) (by kernel_rfl) (fun _ => by kernel_rfl) ?_
                            refine I_all1 15 (by kernel_rfl) ?_
                            refine I_op 15 rfl ?_ rfl
                            refine L_storeA b4 0 [(.int .i64 no), (.int .i32 ((hexF x19).1)), (.int .i32 ((hexF x28).1)), (.bool false)] [(.int .i64 0), (.int .i32 0), (.int .i32 0), (.bool false)] [(.int .i64 no), (.int .i32 ((hexF x19).1)), (.int .i32 ((hexF x28).1)), (.bool false)] 27 (by kernel_rfl) (by kernel_rfl) rfl (by kernel_rfl) o_x2 (by kernel_rfl) rfl ?_
                            intro w100 hW101
                            replace hb := hb.trans (hW101.below g_x2)
                            replace hs := Nat.le_trans hs (Nat.le_of_eq hW101.size.symm)
                            have n_o_x1 := obj_wrote o_x1 hW101 (obj_ne o_x1 o_x2 (by simp))
                            have n_p_f := in_p_f.below hb
                            replace o_x1 := n_o_x1; clear n_o_x1
                            replace p_f := n_p_f; clear n_p_f
                            replace o_x2 := hW101.here
                            refine L_nil ?_
                            refine ⟨rfl, ?_⟩
                            refine I_take 16 (.int .i64 0) rfl (by kernel_rfl) (by kernel_rfl) (by kernel_rfl) (by kernel_rfl) (noPanic_then noPanic_end) (by kernel_rfl) (fun _ => by kernel_rfl) ?_
                            refine I_done (by kernel_rfl) ?_
                            refine thenQ_normal (W_ret ?_)
                            refine end_ret [.cell 2 27, .tmp 3] [(Value.agg #[(.int .i64 no), (.int .i32 ((hexF x19).1)), (.int .i32 ((hexF x28).1)), (.bool false)]), (.int .i64 0)] rfl rfl ⟨⟨⟨b4, 0, none⟩, by kernel_rfl, load_agg [(.int .i64 no), (.int .i32 ((hexF x19).1)), (.int .i32 ((hexF x28).1)), (.bool false)] (by kernel_rfl) (by kernel_rfl) (cells_obj o_x2)⟩, by kernel_rfl, trivial⟩ ?_
                            have hE : ((Value.agg #[(.int .i64 no), (.int .i32 ((hexF x19).1)), (.int .i32 ((hexF x28).1)), (.bool false)]) = (Value.agg #[(.int .i64 ((mscanF no k f t).1.1)), (.int .i32 ((mscanF no k f t).1.2.1)), (.int .i32 ((mscanF no k f t).1.2.2.1)), (.bool ((mscanF no k f t).1.2.2.2))])) ∧ ((0 : Int) = (mscanF no k f t).2) := ⟨(by (rw [ms_ok (by omega) (by omega) (by assumption) (by assumption) (by assumption) (by assumption)]; first | done | (rw [hp_take (p := bestT) (by assumption)]; first | done | rfl) | (rw [hp_not (p := bestT) (.inl (by assumption))]; first | done | rfl) | (rw [hp_not (p := bestT) (.inr (by assumption))]; first | done | rfl) | rfl)), (by (rw [ms_ok (by omega) (by omega) (by assumption) (by assumption) (by assumption) (by assumption)]; first | done | (rw [hp_take (p := bestT) (by assumption)]; first | done | rfl) | (rw [hp_not (p := bestT) (.inl (by assumption))]; first | done | rfl) | (rw [hp_not (p := bestT) (.inr (by assumption))]; first | done | rfl) | rfl))⟩
                            exact ⟨tup2 (hE.1) (congrArg (Value.int .i64) hE.2), hb⟩
                  · intro h102
                    replace h102 : (t).length < 10 := by omega
                    refine L_nil ?_
                    refine ⟨rfl, ?_⟩
                    refine I_take 8 (.bool false) rfl (by kernel_rfl) (by kernel_rfl) (by kernel_rfl) (by kernel_rfl) (noPanic_then noPanic_end) (by kernel_rfl) (fun _ => by kernel_rfl) ?_
                    refine I_takeS 9 rfl (by kernel_rfl) (by kernel_rfl) (by kernel_rfl) (by kernel_rfl) (noPanic_then noPanic_end) (by kernel_rfl) ?_
                    refine I_takeS 10 rfl (by kernel_rfl) (by kernel_rfl) (by kernel_rfl) (by kernel_rfl) (noPanic_then noPanic_end) (by kernel_rfl) ?_
                    refine I_takeS 11 rfl (by kernel_rfl) (by kernel_rfl) (by kernel_rfl) (by kernel_rfl) (noPanic_then noPanic_end) (by kernel_rfl) ?_
                    refine I_takeS 12 rfl (by kernel_rfl) (by kernel_rfl) (by kernel_rfl) (by kernel_rfl) (noPanic_then noPanic_end) (by kernel_rfl) ?_
                    refine I_take 13 (.bool false) rfl (by kernel_rfl) (by kernel_rfl) (by kernel_rfl) (by kernel_rfl) (noPanic_then noPanic_end) (by kernel_rfl) (fun _ => by kernel_rfl) ?_
                    refine I_all1 1 (by kernel_rfl) ?_
                    refine I_op 1 rfl ?_ rfl
                    refine L_load b1 0 (.int .i64 no) (by kernel_rfl) (by kernel_rfl) (cell_obj o_x1 rfl) (L_nil ?_)
                    refine ⟨rfl, ?_⟩
                    refine I_take 14 (Value.agg #[(.int .i64 no), (.int .i32 ((hexF x19).1)), (.int .i32 ((hexF x28).1)), (.bool false)]) rfl (by kernel_rfl) (by kernel_rfl) (by kernel_rfl) (by kernel_rfl) (noPanic_then noPanic_end) (by kernel_rfl) (fun _ => by kernel_rfl) ?_
                    refine I_all1 15 (by kernel_rfl) ?_
                    refine I_op 15 rfl ?_ rfl
                    refine L_storeA b4 0 [(.int .i64 no), (.int .i32 ((hexF x19).1)), (.int .i32 ((hexF x28).1)), (.bool false)] [(.int .i64 0), (.int .i32 0), (.int .i32 0), (.bool false)] [(.int .i64 no), (.int .i32 ((hexF x19).1)), (.int .i32 ((hexF x28).1)), (.bool false)] 27 (by kernel_rfl) (by kernel_rfl) rfl (by kernel_rfl) o_x2 (by kernel_rfl) rfl ?_
                    intro w103 hW104
                    replace hb := hb.trans (hW104.below g_x2)
                    replace hs := Nat.le_trans hs (Nat.le_of_eq hW104.size.symm)
                    have n_o_x1 := obj_wrote o_x1 hW104 (obj_ne o_x1 o_x2 (by simp))
                    have n_p_f := in_p_f.below hb
                    replace o_x1 := n_o_x1; clear n_o_x1
                    replace p_f := n_p_f; clear n_p_f
                    replace o_x2 := hW104.here
                    refine L_nil ?_
                    refine ⟨rfl, ?_⟩
                    refine I_take 16 (.int .i64 0) rfl (by kernel_rfl) (by kernel_rfl) (by kernel_rfl) (by kernel_rfl) (noPanic_then noPanic_end) (by kernel_rfl) (fun _ => by kernel_rfl) ?_
                    refine I_done (by kernel_rfl) ?_
                    refine thenQ_normal (W_ret ?_)
                    refine end_ret [.cell 2 27, .tmp 3] [(Value.agg #[(.int .i64 no), (.int .i32 ((hexF x19).1)), (.int .i32 ((hexF x28).1)), (.bool false)]), (.int .i64 0)] rfl rfl ⟨⟨⟨b4, 0, none⟩, by kernel_rfl, load_agg [(.int .i64 no), (.int .i32 ((hexF x19).1)), (.int .i32 ((hexF x28).1)), (.bool false)] (by kernel_rfl) (by kernel_rfl) (cells_obj o_x2)⟩, by kernel_rfl, trivial⟩ ?_
                    have hE : ((Value.agg #[(.int .i64 no), (.int .i32 ((hexF x19).1)), (.int .i32 ((hexF x28).1)), (.bool false)]) = (Value.agg #[(.int .i64 ((mscanF no k f t).1.1)), (.int .i32 ((mscanF no k f t).1.2.1)), (.int .i32 ((mscanF no k f t).1.2.2.1)), (.bool ((mscanF no k f t).1.2.2.2))])) ∧ ((0 : Int) = (mscanF no k f t).2) := ⟨(by (rw [ms_ok (by omega) (by omega) (by assumption) (by assumption) (by assumption) (by assumption)]; first | done | (rw [hp_take (p := bestT) (by assumption)]; first | done | rfl) | (rw [hp_not (p := bestT) (.inl (by assumption))]; first | done | rfl) | (rw [hp_not (p := bestT) (.inr (by assumption))]; first | done | rfl) | rfl)), (by (rw [ms_ok (by omega) (by omega) (by assumption) (by assumption) (by assumption) (by assumption)]; first | done | (rw [hp_take (p := bestT) (by assumption)]; first | done | rfl) | (rw [hp_not (p := bestT) (.inl (by assumption))]; first | done | rfl) | (rw [hp_not (p := bestT) (.inr (by assumption))]; first | done | rfl) | rfl))⟩
                    exact ⟨tup2 (hE.1) (congrArg (Value.int .i64) hE.2), hb⟩

set_option maxHeartbeats 4000000 in
set_option maxRecDepth 100000 in
theorem c_mirrors_Check (v_l : Value) (l : List (Mir)) (w : World) (p_l : Rd w encMir v_l l) (hl : l.length ≤ 1073741824) :
    Calls Tryd.prog 22 #[v_l] w (Ret fun v w' => v = (.tuple #[(.int .i64 (((mcheckF l).1 : Nat) : Int)), (.int .i64 ((mcheckF l).2))]) ∧ Below w.heap.size w w') := by
  refine enter (args := [v_l]) Tryd.func22 rfl (by kernel_rfl : _ = 80) (by kernel_rfl) ?_
  have hb := Below.refl w.heap.size w
  have hs : w.heap.size ≤ w.heap.size := Nat.le_refl _
  have in_p_l := p_l
  refine W_seq (W_region (L_as (L_as (L_nil (thenQ_normal (W_seq (W_region (L_mkmap (T := 84) .i32 .i32 ?_))))))))
  intro b1 w2 hN3
  have g_m13 : w.heap.size ≤ b1 := by rw [hN3.num]; exact hs
  replace hb := hb.trans (hN3.below.mono hs)
  replace hs := Nat.le_trans hs (hN3.below.size)
  replace p_l := p_l.below hN3.below
  have o_m13 := hN3.here
  refine L_as (L_nil (thenQ_normal (W_seq (W_seq (W_region (L_mv (L_len 35 27 (l).length v_l rfl Tryd.underlying35 (p_l).len (by kernel_rfl) (L_mv (L_nil (thenQ_normal (W_block ?_)))))))))))
  refine W_loop (fun m s0 w0 => ∃ (i : Nat) (W : List (Int × Int)), (m = l.length - i) ∧ (s0.ds = []) ∧ (s0.f 0 = v_l) ∧ (s0.f 4 = (.map (some b1))) ∧ (s0.f 14 = v_l) ∧ (s0.f 15 = (.int .i64 (((l).length : Nat) : Int))) ∧ (s0.f 16 = (.int .i64 ((i : Nat) : Int))) ∧ (Rd w0 encMir v_l l) ∧ (w0.heap[b1]? = some (mapObj .i32 .i32 W)) ∧ (Below w.heap.size w w0) ∧ (w.heap.size ≤ w0.heap.size) ∧ (i ≤ l.length) ∧ (W = prs (l.take i)) ∧ (invA l i)) _ ⟨0, [], rfl, by kernel_rfl, by kernel_rfl, by kernel_rfl, by kernel_rfl, by kernel_rfl, by kernel_rfl, p_l, o_m13, hb, hs, (Nat.zero_le _), rfl, invA_zero l⟩ ?_
  rintro m4 s5 w6 ⟨i, W, hm, hds, f_0, f_4, f_14, f_15, f_16, p_l, o_m13, hb, hs, i1, i2, i3⟩
  refine W_set 0 _ f_0 (W_set 4 _ f_4 (W_set 14 _ f_14 (W_set 15 _ f_15 (W_set 16 _ f_16 ?_))))
  clear f_0 f_4 f_14 f_15 f_16
  refine W_seq (W_region (L_cmp .i64 ((i : Nat) : Int) (((l).length : Nat) : Int) (i < (l).length) rfl (cmpN_lt i ((l).length)) (by kernel_rfl) (by kernel_rfl) ?_ ?_))
  · intro h7
    replace h7 : i < (l).length := by omega
    refine L_nil (thenQ_normal (W_seq (W_true (by kernel_rfl) (W_skip (thenQ_normal (W_seq (W_block (W_seq (W_region (L_mv ?_))))))))))
    have hz := get_some l i (by omega); obtain ⟨x8, hx9⟩ := hz
    have hz := (p_l).at (k := 4) (fun _ => rfl) hx9
    obtain ⟨g10, off11, hl12, hc13⟩ := hz
    refine L_ixaddr (k := .i64) v_l i _ g10 off11 el35 hl12 (by omega) (by kernel_rfl) (by kernel_rfl) (L_loadA g10 (off11 + i * 4) [(.int .i64 x8.1), (.int .i32 x8.2.1), (.int .i32 x8.2.2.1), (.bool x8.2.2.2)] (by kernel_rfl) (by kernel_rfl) (by kernel_rfl) hc13 (L_new (fun b => .pointer (some ⟨b, 0, none⟩)) (.cells [(.int .i64 0), (.int .i32 0), (.int .i32 0), (.bool false)].toArray 27 (0, 0)) (by kernel_rfl) (by kernel_rfl) ?_))
    intro b14 w15 hN16
    have ne_m13_x6 : b1 ≠ b14 := by have := (obj_lt o_m13); have := hN16.num; omega
    have ne_x6_m13 := ne_m13_x6.symm
    have g_x6 : w.heap.size ≤ b14 := by rw [hN16.num]; exact hs
    replace hb := hb.trans (hN16.below.mono hs)
    replace hs := Nat.le_trans hs (hN16.below.size)
    replace o_m13 := obj_below o_m13 hN16.below
    replace p_l := p_l.below hN16.below
    have o_x6 := hN16.here
    refine L_as (L_storeA b14 0 [(.int .i64 x8.1), (.int .i32 x8.2.1), (.int .i32 x8.2.2.1), (.bool x8.2.2.2)] [(.int .i64 0), (.int .i32 0), (.int .i32 0), (.bool false)] [(.int .i64 x8.1), (.int .i32 x8.2.1), (.int .i32 x8.2.2.1), (.bool x8.2.2.2)] 27 (by kernel_rfl) (by kernel_rfl) rfl (by kernel_rfl) o_x6 (by kernel_rfl) rfl ?_)
    intro w17 hW18
    replace hb := hb.trans (hW18.below g_x6)
    replace hs := Nat.le_trans hs (Nat.le_of_eq hW18.size.symm)
    have n_o_m13 := obj_wrote o_m13 hW18 ne_m13_x6
    have n_p_l := in_p_l.below hb
    replace o_m13 := n_o_m13; clear n_o_m13
    replace p_l := n_p_l; clear n_p_l
    replace o_x6 := hW18.here
    refine L_nil (thenQ_normal (W_seq (W_region (L_mv (L_run (.pointer (some ⟨b14, 1, none⟩)) (by kernel_rfl) (by kernel_rfl) (L_load b14 1 (.int .i32 x8.2.1) (by kernel_rfl) (by kernel_rfl) (cell_obj o_x6 rfl) (L_mlook (k := .i32) (v := .i32) b1 x8.2.1 W Tryd.underlying84 Tryd.underlying21 (by kernel_rfl) o_m13 (by kernel_rfl) (by kernel_rfl) (L_mv (L_run (.int .i32 ((mget W x8.2.1).getD 0)) (by kernel_rfl) (by kernel_rfl) (L_run (.bool ((mget W x8.2.1).isSome)) (by kernel_rfl) (by kernel_rfl) (put_split ((mget W x8.2.1).isSome) ?_ ?_)))))))))))
    · intro h19
      refine L_as (L_as (L_nil (thenQ_normal (W_seq (W_block (W_seq (W_region (L_run (.pointer (some ⟨b14, 1, none⟩)) (by kernel_rfl) (by kernel_rfl) (L_load b14 1 (.int .i32 x8.2.1) (by kernel_rfl) (by kernel_rfl) (cell_obj o_x6 rfl) (L_call 41 [(.int .i32 x8.2.1)] (by kernel_rfl) (by kernel_rfl) (c_mirrors_point x8.2.1 _ ) ?_))))))))))
      rintro _ w20 ⟨rfl, hB21⟩
      replace hb := hb.trans (hB21.mono hs)
      replace hs := Nat.le_trans hs (hB21.size)
      replace o_m13 := obj_below o_m13 hB21
      replace o_x6 := obj_below o_x6 hB21
      replace p_l := p_l.below hB21
      refine put_split (ptB x8.2.1) ?_ ?_
      · intro h23
        refine L_not true (by kernel_rfl) (L_mv (L_want (by kernel_rfl) (L_run (.pointer (some ⟨b14, 2, none⟩)) (by kernel_rfl) (by kernel_rfl) (L_want (by kernel_rfl) (L_load b14 2 (.int .i32 x8.2.2.1) (by kernel_rfl) (by kernel_rfl) (cell_obj o_x6 rfl) (L_want (by kernel_rfl) (L_call 41 [(.int .i32 x8.2.2.1)] (by kernel_rfl) (by kernel_rfl) (c_mirrors_point x8.2.2.1 _ ) ?_)))))))
        rintro _ w24 ⟨rfl, hB25⟩
        replace hb := hb.trans (hB25.mono hs)
        replace hs := Nat.le_trans hs (hB25.size)
        replace o_m13 := obj_below o_m13 hB25
        replace o_x6 := obj_below o_x6 hB25
        replace p_l := p_l.below hB25
        refine put_split (ptB x8.2.2.1) ?_ ?_
        · intro h27
          refine L_want (by kernel_rfl) (L_not true (by kernel_rfl) (L_pickF (by kernel_rfl) (L_as (L_nil (thenQ_normal (W_false (by kernel_rfl) (W_seq (W_region (L_run (.pointer (some ⟨b14, 1, none⟩)) (by kernel_rfl) (by kernel_rfl) (L_load b14 1 (.int .i32 x8.2.1) (by kernel_rfl) (by kernel_rfl) (cell_obj o_x6 rfl) (L_run (.pointer (some ⟨b14, 2, none⟩)) (by kernel_rfl) (by kernel_rfl) (L_load b14 2 (.int .i32 x8.2.2.1) (by kernel_rfl) (by kernel_rfl) (cell_obj o_x6 rfl) (L_cmp .i32 x8.2.1 x8.2.2.1 (x8.2.1 = x8.2.2.1) rfl (cmp_eq x8.2.1 x8.2.2.1) (by kernel_rfl) (by kernel_rfl) ?_ ?_)))))))))))))
          · intro h28
            replace h28 : x8.2.1 = x8.2.2.1 := by omega
            refine L_as (L_nil (thenQ_normal (W_true (by kernel_rfl) (W_seq (W_region (L_mv (L_as (L_as (L_nil (thenQ_normal (W_ret (blkQ_ret (thenQ_ret (blkQ_ret (thenQ_ret (thenQ_ret (blkQ_ret (thenQ_ret ?_))))))))))))))))))
            refine end_ret [.tmp 2, .tmp 3] [(.int .i64 ((i : Nat) : Int)), (.int .i64 91)] rfl hds ⟨by kernel_rfl, by kernel_rfl, trivial⟩ ?_
            have hE : (i = (mcheckF l).1) ∧ ((91 : Int) = (mcheckF l).2) := ⟨(by (rw [invA_self i3 (by assumption) (by assumption) (by assumption) (by assumption)]; done)), (by (rw [invA_self i3 (by assumption) (by assumption) (by assumption) (by assumption)]; done))⟩
            exact ⟨tup2 (congrArg (fun x : Nat => Value.int .i64 (x : Int)) hE.1) (congrArg (Value.int .i64) hE.2), hb⟩
          · intro h29
            replace h29 : x8.2.1 ≠ x8.2.2.1 := by omega
            refine L_as (L_nil (thenQ_normal (W_false (by kernel_rfl) (W_seq (W_region (L_mv (L_as (L_nil (thenQ_normal (W_true (by kernel_rfl) (W_seq (W_region (L_mv (L_as (L_as (L_nil (thenQ_normal (W_ret (blkQ_ret (thenQ_ret (blkQ_ret (thenQ_ret (thenQ_ret (blkQ_ret (thenQ_ret ?_)))))))))))))))))))))))))
            refine end_ret [.tmp 2, .tmp 3] [(.int .i64 ((i : Nat) : Int)), (.int .i64 92)] rfl hds ⟨by kernel_rfl, by kernel_rfl, trivial⟩ ?_
            have hE : (i = (mcheckF l).1) ∧ ((92 : Int) = (mcheckF l).2) := ⟨(by (rw [invA_again i3 (by assumption) (by assumption) (by assumption) (by assumption) (was_seenW i2 (by assumption))]; done)), (by (rw [invA_again i3 (by assumption) (by assumption) (by assumption) (by assumption) (was_seenW i2 (by assumption))]; done))⟩
            exact ⟨tup2 (congrArg (fun x : Nat => Value.int .i64 (x : Int)) hE.1) (congrArg (Value.int .i64) hE.2), hb⟩
        · intro h30
          refine L_want (by kernel_rfl) (L_not false (by kernel_rfl) (L_pickF (by kernel_rfl) (L_as (L_nil (thenQ_normal (W_true (by kernel_rfl) (W_seq (W_region (L_mv (L_as (L_as (L_nil (thenQ_normal (W_ret (blkQ_ret (thenQ_ret (blkQ_ret (thenQ_ret (thenQ_ret (blkQ_ret (thenQ_ret ?_)))))))))))))))))))))
          refine end_ret [.tmp 2, .tmp 3] [(.int .i64 ((i : Nat) : Int)), (.int .i64 2)] rfl hds ⟨by kernel_rfl, by kernel_rfl, trivial⟩ ?_
          have hE : (i = (mcheckF l).1) ∧ ((2 : Int) = (mcheckF l).2) := ⟨(by (rw [invA_arg i3 (by assumption) (.inr (by assumption))]; done)), (by (rw [invA_arg i3 (by assumption) (.inr (by assumption))]; done))⟩
          exact ⟨tup2 (congrArg (fun x : Nat => Value.int .i64 (x : Int)) hE.1) (congrArg (Value.int .i64) hE.2), hb⟩
      · intro h31
        refine L_not false (by kernel_rfl) (L_mv (L_skip (by kernel_rfl) (L_skip (by kernel_rfl) (L_skip (by kernel_rfl) (L_skip (by kernel_rfl) (L_pickT (by kernel_rfl) (L_as (L_nil (thenQ_normal (W_true (by kernel_rfl) (W_seq (W_region (L_mv (L_as (L_as (L_nil (thenQ_normal (W_ret (blkQ_ret (thenQ_ret (blkQ_ret (thenQ_ret (thenQ_ret (blkQ_ret (thenQ_ret ?_)))))))))))))))))))))))))
        refine end_ret [.tmp 2, .tmp 3] [(.int .i64 ((i : Nat) : Int)), (.int .i64 2)] rfl hds ⟨by kernel_rfl, by kernel_rfl, trivial⟩ ?_
        have hE : (i = (mcheckF l).1) ∧ ((2 : Int) = (mcheckF l).2) := ⟨(by (rw [invA_arg i3 (by assumption) (.inl (by assumption))]; done)), (by (rw [invA_arg i3 (by assumption) (.inl (by assumption))]; done))⟩
        exact ⟨tup2 (congrArg (fun x : Nat => Value.int .i64 (x : Int)) hE.1) (congrArg (Value.int .i64) hE.2), hb⟩
    · intro h32
      refine L_as (L_as (L_nil (thenQ_normal (W_seq (W_block (W_seq (W_region (L_run (.pointer (some ⟨b14, 1, none⟩)) (by kernel_rfl) (by kernel_rfl) (L_load b14 1 (.int .i32 x8.2.1) (by kernel_rfl) (by kernel_rfl) (cell_obj o_x6 rfl) (L_call 41 [(.int .i32 x8.2.1)] (by kernel_rfl) (by kernel_rfl) (c_mirrors_point x8.2.1 _ ) ?_))))))))))
      rintro _ w33 ⟨rfl, hB34⟩
      replace hb := hb.trans (hB34.mono hs)
      replace hs := Nat.le_trans hs (hB34.size)
      replace o_m13 := obj_below o_m13 hB34
      replace o_x6 := obj_below o_x6 hB34
      replace p_l := p_l.below hB34
      refine put_split (ptB x8.2.1) ?_ ?_
      · intro h36
        refine L_not true (by kernel_rfl) (L_mv (L_want (by kernel_rfl) (L_run (.pointer (some ⟨b14, 2, none⟩)) (by kernel_rfl) (by kernel_rfl) (L_want (by kernel_rfl) (L_load b14 2 (.int .i32 x8.2.2.1) (by kernel_rfl) (by kernel_rfl) (cell_obj o_x6 rfl) (L_want (by kernel_rfl) (L_call 41 [(.int .i32 x8.2.2.1)] (by kernel_rfl) (by kernel_rfl) (c_mirrors_point x8.2.2.1 _ ) ?_)))))))
        rintro _ w37 ⟨rfl, hB38⟩
        replace hb := hb.trans (hB38.mono hs)
        replace hs := Nat.le_trans hs (hB38.size)
        replace o_m13 := obj_below o_m13 hB38
        replace o_x6 := obj_below o_x6 hB38
        replace p_l := p_l.below hB38
        refine put_split (ptB x8.2.2.1) ?_ ?_
        · intro h40
          refine L_want (by kernel_rfl) (L_not true (by kernel_rfl) (L_pickF (by kernel_rfl) (L_as (L_nil (thenQ_normal (W_false (by kernel_rfl) (W_seq (W_region (L_run (.pointer (some ⟨b14, 1, none⟩)) (by kernel_rfl) (by kernel_rfl) (L_load b14 1 (.int .i32 x8.2.1) (by kernel_rfl) (by kernel_rfl) (cell_obj o_x6 rfl) (L_run (.pointer (some ⟨b14, 2, none⟩)) (by kernel_rfl) (by kernel_rfl) (L_load b14 2 (.int .i32 x8.2.2.1) (by kernel_rfl) (by kernel_rfl) (cell_obj o_x6 rfl) (L_cmp .i32 x8.2.1 x8.2.2.1 (x8.2.1 = x8.2.2.1) rfl (cmp_eq x8.2.1 x8.2.2.1) (by kernel_rfl) (by kernel_rfl) ?_ ?_)))))))))))))
          · intro h41
            replace h41 : x8.2.1 = x8.2.2.1 := by omega
            refine L_as (L_nil (thenQ_normal (W_true (by kernel_rfl) (W_seq (W_region (L_mv (L_as (L_as (L_nil (thenQ_normal (W_ret (blkQ_ret (thenQ_ret (blkQ_ret (thenQ_ret (thenQ_ret (blkQ_ret (thenQ_ret ?_))))))))))))))))))
            refine end_ret [.tmp 2, .tmp 3] [(.int .i64 ((i : Nat) : Int)), (.int .i64 91)] rfl hds ⟨by kernel_rfl, by kernel_rfl, trivial⟩ ?_
            have hE : (i = (mcheckF l).1) ∧ ((91 : Int) = (mcheckF l).2) := ⟨(by (rw [invA_self i3 (by assumption) (by assumption) (by assumption) (by assumption)]; done)), (by (rw [invA_self i3 (by assumption) (by assumption) (by assumption) (by assumption)]; done))⟩
            exact ⟨tup2 (congrArg (fun x : Nat => Value.int .i64 (x : Int)) hE.1) (congrArg (Value.int .i64) hE.2), hb⟩
          · intro h42
            replace h42 : x8.2.1 ≠ x8.2.2.1 := by omega
            refine L_as (L_nil (thenQ_normal (W_false (by kernel_rfl) (W_seq (W_region (L_mv (L_as (L_nil (thenQ_normal (W_false (by kernel_rfl) (W_skip (blkQ_normal (thenQ_normal (W_region (L_mv (L_run (.pointer (some ⟨b14, 1, none⟩)) (by kernel_rfl) (by kernel_rfl) (L_load b14 1 (.int .i32 x8.2.1) (by kernel_rfl) (by kernel_rfl) (cell_obj o_x6 rfl) (L_run (.pointer (some ⟨b14, 2, none⟩)) (by kernel_rfl) (by kernel_rfl) (L_load b14 2 (.int .i32 x8.2.2.1) (by kernel_rfl) (by kernel_rfl) (cell_obj o_x6 rfl) (L_mlay (k := .i32) (v := .i32) b1 x8.2.1 x8.2.2.1 W Tryd.underlying84 Tryd.underlying21 o_m13 (by kernel_rfl) (by kernel_rfl) (by kernel_rfl) (by first | exact none_of (by assumption) | (omega)) ?_))))))))))))))))))))
            intro w43 hW44
            replace hb := hb.trans (hW44.below g_m13)
            replace hs := Nat.le_trans hs (Nat.le_of_eq hW44.size.symm)
            have n_o_x6 := obj_wrote o_x6 hW44 ne_x6_m13
            have n_p_l := in_p_l.below hb
            replace o_x6 := n_o_x6; clear n_o_x6
            replace p_l := n_p_l; clear n_p_l
            replace o_m13 := hW44.here
            refine L_nil (blkQ_normal (thenQ_normal (W_region (L_addN i 1 (by omega) (by kernel_rfl) (by kernel_rfl) (L_mv (L_nil ?_))))))
            refine thenQ_normal ⟨_, ?_, (i + 1), (W ++ [(x8.2.1, x8.2.2.1)]), rfl, hds, by kernel_rfl, by kernel_rfl, by kernel_rfl, by kernel_rfl, by kernel_rfl, p_l, o_m13, hb, hs, ?_, ?_, ?_⟩
            · omega
            · omega
            · exact prs_succW i2 (by assumption)
            · exact invA_succ i3 (by assumption) (by assumption) (by assumption) (by assumption) (was_notW i2 (by assumption))
        · intro h45
          refine L_want (by kernel_rfl) (L_not false (by kernel_rfl) (L_pickF (by kernel_rfl) (L_as (L_nil (thenQ_normal (W_true (by kernel_rfl) (W_seq (W_region (L_mv (L_as (L_as (L_nil (thenQ_normal (W_ret (blkQ_ret (thenQ_ret (blkQ_ret (thenQ_ret (thenQ_ret (blkQ_ret (thenQ_ret ?_)))))))))))))))))))))
          refine end_ret [.tmp 2, .tmp 3] [(.int .i64 ((i : Nat) : Int)), (.int .i64 2)] rfl hds ⟨by kernel_rfl, by kernel_rfl, trivial⟩ ?_
          have hE : (i = (mcheckF l).1) ∧ ((2 : Int) = (mcheckF l).2) := ⟨(by (rw [invA_arg i3 (by assumption) (.inr (by assumption))]; done)), (by (rw [invA_arg i3 (by assumption) (.inr (by assumption))]; done))⟩
          exact ⟨tup2 (congrArg (fun x : Nat => Value.int .i64 (x : Int)) hE.1) (congrArg (Value.int .i64) hE.2), hb⟩
      · intro h46
        refine L_not false (by kernel_rfl) (L_mv (L_skip (by kernel_rfl) (L_skip (by kernel_rfl) (L_skip (by kernel_rfl) (L_skip (by kernel_rfl) (L_pickT (by kernel_rfl) (L_as (L_nil (thenQ_normal (W_true (by kernel_rfl) (W_seq (W_region (L_mv (L_as (L_as (L_nil (thenQ_normal (W_ret (blkQ_ret (thenQ_ret (blkQ_ret (thenQ_ret (thenQ_ret (blkQ_ret (thenQ_ret ?_)))))))))))))))))))))))))
        refine end_ret [.tmp 2, .tmp 3] [(.int .i64 ((i : Nat) : Int)), (.int .i64 2)] rfl hds ⟨by kernel_rfl, by kernel_rfl, trivial⟩ ?_
        have hE : (i = (mcheckF l).1) ∧ ((2 : Int) = (mcheckF l).2) := ⟨(by (rw [invA_arg i3 (by assumption) (.inl (by assumption))]; done)), (by (rw [invA_arg i3 (by assumption) (.inl (by assumption))]; done))⟩
        exact ⟨tup2 (congrArg (fun x : Nat => Value.int .i64 (x : Int)) hE.1) (congrArg (Value.int .i64) hE.2), hb⟩
  · intro h47
    replace h47 : (l).length ≤ i := by omega
    refine L_nil (thenQ_normal (W_seq (W_false (by kernel_rfl) (W_exit (thenQ_exit (thenQ_exit (blkQ_exit (thenQ_normal (W_seq (W_seq (W_region (L_mv (L_len 35 27 (l).length v_l rfl Tryd.underlying35 (p_l).len (by kernel_rfl) (L_mv (L_nil (thenQ_normal (W_block ?_)))))))))))))))))
    refine W_loop (fun m s0 w0 => ∃ (j : Nat), (m = l.length - j) ∧ (s0.ds = []) ∧ (s0.f 4 = (.map (some b1))) ∧ (s0.f 56 = v_l) ∧ (s0.f 57 = (.int .i64 (((l).length : Nat) : Int))) ∧ (s0.f 58 = (.int .i64 ((j : Nat) : Int))) ∧ (Rd w0 encMir v_l l) ∧ (w0.heap[b1]? = some (mapObj .i32 .i32 W)) ∧ (Below w.heap.size w w0) ∧ (w.heap.size ≤ w0.heap.size) ∧ (j ≤ l.length) ∧ ((chkA [] 0 l).2 = 0) ∧ (invB l j)) _ ⟨0, rfl, hds, by kernel_rfl, by kernel_rfl, by kernel_rfl, by kernel_rfl, p_l, o_m13, hb, hs, (Nat.zero_le _), invA_end i3 (by omega), invB_zero l⟩ ?_
    rintro m48 s49 w50 ⟨j, hm, hds, f_4, f_56, f_57, f_58, p_l, o_m13, hb, hs, i4, i5, i6⟩
    refine W_set 4 _ f_4 (W_set 56 _ f_56 (W_set 57 _ f_57 (W_set 58 _ f_58 ?_)))
    clear f_4 f_56 f_57 f_58
    refine W_seq (W_region (L_cmp .i64 ((j : Nat) : Int) (((l).length : Nat) : Int) (j < (l).length) rfl (cmpN_lt j ((l).length)) (by kernel_rfl) (by kernel_rfl) ?_ ?_))
    · intro h51
      replace h51 : j < (l).length := by omega
      refine L_nil (thenQ_normal (W_seq (W_true (by kernel_rfl) (W_skip (thenQ_normal (W_seq (W_block (W_seq (W_region (L_mv ?_))))))))))
      have hz := get_some l j (by omega); obtain ⟨x52, hx53⟩ := hz
      have hz := (p_l).at (k := 4) (fun _ => rfl) hx53
      obtain ⟨g54, off55, hl56, hc57⟩ := hz
      refine L_ixaddr (k := .i64) v_l j _ g54 off55 el35 hl56 (by omega) (by kernel_rfl) (by kernel_rfl) (L_loadA g54 (off55 + j * 4) [(.int .i64 x52.1), (.int .i32 x52.2.1), (.int .i32 x52.2.2.1), (.bool x52.2.2.2)] (by kernel_rfl) (by kernel_rfl) (by kernel_rfl) hc57 (L_new (fun b => .pointer (some ⟨b, 0, none⟩)) (.cells [(.int .i64 0), (.int .i32 0), (.int .i32 0), (.bool false)].toArray 27 (0, 0)) (by kernel_rfl) (by kernel_rfl) ?_))
      intro b58 w59 hN60
      have ne_m13_x10 : b1 ≠ b58 := by have := (obj_lt o_m13); have := hN60.num; omega
      have ne_x10_m13 := ne_m13_x10.symm
      have g_x10 : w.heap.size ≤ b58 := by rw [hN60.num]; exact hs
      replace hb := hb.trans (hN60.below.mono hs)
      replace hs := Nat.le_trans hs (hN60.below.size)
      replace o_m13 := obj_below o_m13 hN60.below
      replace p_l := p_l.below hN60.below
      have o_x10 := hN60.here
      refine L_as (L_storeA b58 0 [(.int .i64 x52.1), (.int .i32 x52.2.1), (.int .i32 x52.2.2.1), (.bool x52.2.2.2)] [(.int .i64 0), (.int .i32 0), (.int .i32 0), (.bool false)] [(.int .i64 x52.1), (.int .i32 x52.2.1), (.int .i32 x52.2.2.1), (.bool x52.2.2.2)] 27 (by kernel_rfl) (by kernel_rfl) rfl (by kernel_rfl) o_x10 (by kernel_rfl) rfl ?_)
      intro w61 hW62
      replace hb := hb.trans (hW62.below g_x10)
      replace hs := Nat.le_trans hs (Nat.le_of_eq hW62.size.symm)
      have n_o_m13 := obj_wrote o_m13 hW62 ne_m13_x10
      have n_p_l := in_p_l.below hb
      replace o_m13 := n_o_m13; clear n_o_m13
      replace p_l := n_p_l; clear n_p_l
      replace o_x10 := hW62.here
      refine L_nil (thenQ_normal (W_seq (W_region (L_mv (L_run (.pointer (some ⟨b58, 2, none⟩)) (by kernel_rfl) (by kernel_rfl) (L_load b58 2 (.int .i32 x52.2.2.1) (by kernel_rfl) (by kernel_rfl) (cell_obj o_x10 rfl) (L_mlook (k := .i32) (v := .i32) b1 x52.2.2.1 W Tryd.underlying84 Tryd.underlying21 (by kernel_rfl) o_m13 (by kernel_rfl) (by kernel_rfl) (L_mv (L_run (.int .i32 ((mget W x52.2.2.1).getD 0)) (by kernel_rfl) (by kernel_rfl) (L_run (.bool ((mget W x52.2.2.1).isSome)) (by kernel_rfl) (by kernel_rfl) (put_split ((mget W x52.2.2.1).isSome) ?_ ?_)))))))))))
      · intro h63
        refine L_as (L_as (L_nil (thenQ_normal (W_seq (W_region (L_mv (L_not true (by kernel_rfl) (L_mv (L_want (by kernel_rfl) (L_mv (L_want (by kernel_rfl) (L_run (.pointer (some ⟨b58, 1, none⟩)) (by kernel_rfl) (by kernel_rfl) (L_want (by kernel_rfl) (L_load b58 1 (.int .i32 x52.2.1) (by kernel_rfl) (by kernel_rfl) (cell_obj o_x10 rfl) (L_want (by kernel_rfl) (L_cmp .i32 ((mget W x52.2.2.1).getD 0) x52.2.1 (((mget W x52.2.2.1).getD 0) ≠ x52.2.1) rfl (cmp_ne ((mget W x52.2.2.1).getD 0) x52.2.1) (by kernel_rfl) (by kernel_rfl) ?_ ?_))))))))))))))))
        · intro h64
          replace h64 : ((mget W x52.2.2.1).getD 0) ≠ x52.2.1 := by omega
          refine L_pickF (by kernel_rfl) (L_nil (thenQ_normal (W_true (by kernel_rfl) (W_seq (W_region (L_mv (L_as (L_as (L_nil (thenQ_normal (W_ret (blkQ_ret (thenQ_ret (thenQ_ret (blkQ_ret (thenQ_ret ?_))))))))))))))))
          refine end_ret [.tmp 2, .tmp 3] [(.int .i64 ((j : Nat) : Int)), (.int .i64 90)] rfl hds ⟨by kernel_rfl, by kernel_rfl, trivial⟩ ?_
          have hE : (j = (mcheckF l).1) ∧ ((90 : Int) = (mcheckF l).2) := ⟨(by (rw [invB_twist i5 i6 (by assumption) (back_noW i5 i2 (by omega) (.inr (by assumption)))]; done)), (by (rw [invB_twist i5 i6 (by assumption) (back_noW i5 i2 (by omega) (.inr (by assumption)))]; done))⟩
          exact ⟨tup2 (congrArg (fun x : Nat => Value.int .i64 (x : Int)) hE.1) (congrArg (Value.int .i64) hE.2), hb⟩
        · intro h65
          replace h65 : ((mget W x52.2.2.1).getD 0) = x52.2.1 := by omega
          refine L_pickF (by kernel_rfl) (L_nil (thenQ_normal (W_false (by kernel_rfl) (W_skip (blkQ_normal (thenQ_normal (W_region (L_addN j 1 (by omega) (by kernel_rfl) (by kernel_rfl) (L_mv (L_nil ?_))))))))))
          refine thenQ_normal ⟨_, ?_, (j + 1), rfl, hds, by kernel_rfl, by kernel_rfl, by kernel_rfl, by kernel_rfl, p_l, o_m13, hb, hs, ?_, ?_, ?_⟩
          · omega
          · omega
          · exact i5
          · exact invB_succ i6 (by assumption) (back_yesW i5 i2 (by omega) (by assumption) (by assumption))
      · intro h66
        refine L_as (L_as (L_nil (thenQ_normal (W_seq (W_region (L_mv (L_not false (by kernel_rfl) (L_mv (L_skip (by kernel_rfl) (L_skip (by kernel_rfl) (L_skip (by kernel_rfl) (L_skip (by kernel_rfl) (L_pickT (by kernel_rfl) (L_nil (thenQ_normal (W_true (by kernel_rfl) (W_seq (W_region (L_mv (L_as (L_as (L_nil (thenQ_normal (W_ret (blkQ_ret (thenQ_ret (thenQ_ret (blkQ_ret (thenQ_ret ?_)))))))))))))))))))))))))))))
        refine end_ret [.tmp 2, .tmp 3] [(.int .i64 ((j : Nat) : Int)), (.int .i64 90)] rfl hds ⟨by kernel_rfl, by kernel_rfl, trivial⟩ ?_
        have hE : (j = (mcheckF l).1) ∧ ((90 : Int) = (mcheckF l).2) := ⟨(by (rw [invB_twist i5 i6 (by assumption) (back_noW i5 i2 (by omega) (.inl (by assumption)))]; done)), (by (rw [invB_twist i5 i6 (by assumption) (back_noW i5 i2 (by omega) (.inl (by assumption)))]; done))⟩
        exact ⟨tup2 (congrArg (fun x : Nat => Value.int .i64 (x : Int)) hE.1) (congrArg (Value.int .i64) hE.2), hb⟩
    · intro h67
      replace h67 : (l).length ≤ j := by omega
      refine L_nil (thenQ_normal (W_seq (W_false (by kernel_rfl) (W_exit (thenQ_exit (thenQ_exit (blkQ_exit (thenQ_normal (W_seq (W_region (L_as (L_as (L_nil (thenQ_normal (W_ret ?_)))))))))))))))
      refine end_ret [.tmp 2, .tmp 3] [(.int .i64 0), (.int .i64 0)] rfl hds ⟨by kernel_rfl, by kernel_rfl, trivial⟩ ?_
      have hE : (0 = (mcheckF l).1) ∧ ((0 : Int) = (mcheckF l).2) := ⟨(by (rw [invB_end i5 i6 (by omega)]; done)), (by (rw [invB_end i5 i6 (by omega)]; done))⟩
      exact ⟨tup2 (congrArg (fun x : Nat => Value.int .i64 (x : Int)) hE.1) (congrArg (Value.int .i64) hE.2), hb⟩

set_option maxHeartbeats 4000000 in
set_option maxRecDepth 100000 in
theorem c_furrowref09_Check (v_l : Value) (l : List (Mir)) (w : World) (p_l : Rd w encMir v_l l) (hl : l.length ≤ 1073741824) :
    Calls Tryd.prog 23 #[v_l] w (Ret fun v w' => v = (.tuple #[(.int .i64 (((mcheckF l).1 : Nat) : Int)), (.int .i64 ((mcheckF l).2))]) ∧ Below w.heap.size w w') := by
  refine enter (args := [v_l]) Tryd.func23 rfl (by kernel_rfl : _ = 103) (by kernel_rfl) ?_
  have hb := Below.refl w.heap.size w
  have hs : w.heap.size ≤ w.heap.size := Nat.le_refl _
  have in_p_l := p_l
  refine W_seq (W_region (L_as (L_as (L_nil (thenQ_normal (W_seq (W_seq (W_region (L_as (L_nil (thenQ_normal (W_block ?_))))))))))))
  refine W_loop (fun m s0 w0 => ∃ (i : Nat), (m = l.length - i) ∧ (s0.ds = []) ∧ (s0.f 0 = v_l) ∧ (s0.f 4 = (.int .i64 ((i : Nat) : Int))) ∧ (Rd w0 encMir v_l l) ∧ (Below w.heap.size w w0) ∧ (w.heap.size ≤ w0.heap.size) ∧ (i ≤ l.length) ∧ (invA l i)) _ ⟨0, rfl, by kernel_rfl, by kernel_rfl, by kernel_rfl, p_l, hb, hs, (Nat.zero_le _), invA_zero l⟩ ?_
  rintro m1 s2 w3 ⟨i, hm, hds, f_0, f_4, p_l, hb, hs, i1, i3⟩
  refine W_set 0 _ f_0 (W_set 4 _ f_4 ?_)
  clear f_0 f_4
  refine W_seq (W_seq (W_region (L_mv (L_mv (L_len 35 27 (l).length v_l rfl Tryd.underlying35 (p_l).len (by kernel_rfl) (L_cmp .i64 ((i : Nat) : Int) (((l).length : Nat) : Int) (i < (l).length) rfl (cmpN_lt i ((l).length)) (by kernel_rfl) (by kernel_rfl) ?_ ?_))))))
  · intro h4
    replace h4 : i < (l).length := by omega
    refine L_nil (thenQ_normal (W_true (by kernel_rfl) (W_skip (thenQ_normal (W_seq (W_block (W_seq (W_seq (W_region (L_mv (L_mv ?_)))))))))))
    have hz := get_some l i (by omega); obtain ⟨x5, hx6⟩ := hz
    have hz := (p_l).at (k := 4) (fun _ => rfl) hx6
    obtain ⟨g7, off8, hl9, hc10⟩ := hz
    refine L_ixaddr (k := .i64) v_l i _ g7 off8 el35 hl9 (by omega) (by kernel_rfl) (by kernel_rfl) (L_run (.pointer (some ⟨g7, ((off8 + i * 4) + 1), none⟩)) (by kernel_rfl) (by kernel_rfl) (L_load g7 ((off8 + i * 4) + 1) (.int .i32 x5.2.1) (by kernel_rfl) (by kernel_rfl) (hc10 1 _ rfl) (L_call 42 [(.int .i32 x5.2.1)] (by kernel_rfl) (by kernel_rfl) (c_furrowref09_point x5.2.1 _ ) ?_)))
    rintro _ w11 ⟨rfl, hB12⟩
    replace hb := hb.trans (hB12.mono hs)
    replace hs := Nat.le_trans hs (hB12.size)
    replace p_l := p_l.below hB12
    refine put_split (ptB x5.2.1) ?_ ?_
    · intro h14
      refine L_not true (by kernel_rfl) (L_mv (L_want (by kernel_rfl) (L_mv (L_want (by kernel_rfl) (L_mv (L_want (by kernel_rfl) ?_))))))
      have hz := (p_l).at (k := 4) (fun _ => rfl) hx6
      obtain ⟨g17, off18, hl19, hc20⟩ := hz
      refine L_ixaddr (k := .i64) v_l i _ g17 off18 el35 hl19 (by omega) (by kernel_rfl) (by kernel_rfl) (L_want (by kernel_rfl) (L_run (.pointer (some ⟨g17, ((off18 + i * 4) + 2), none⟩)) (by kernel_rfl) (by kernel_rfl) (L_want (by kernel_rfl) (L_load g17 ((off18 + i * 4) + 2) (.int .i32 x5.2.2.1) (by kernel_rfl) (by kernel_rfl) (hc20 2 _ rfl) (L_want (by kernel_rfl) (L_call 42 [(.int .i32 x5.2.2.1)] (by kernel_rfl) (by kernel_rfl) (c_furrowref09_point x5.2.2.1 _ ) ?_))))))
      rintro _ w21 ⟨rfl, hB22⟩
      replace hb := hb.trans (hB22.mono hs)
      replace hs := Nat.le_trans hs (hB22.size)
      replace p_l := p_l.below hB22
      refine put_split (ptB x5.2.2.1) ?_ ?_
      · intro h24
        refine L_want (by kernel_rfl) (L_not true (by kernel_rfl) (L_pickF (by kernel_rfl) (L_nil (thenQ_normal (W_false (by kernel_rfl) (W_skip (thenQ_normal (W_seq (W_seq (W_quiet (by kernel_rfl) (by kernel_rfl) (Lq_mv (Lq_mv ?_))))))))))))
        have hz := (p_l).at (k := 4) (fun _ => rfl) hx6
        obtain ⟨g27, off28, hl29, hc30⟩ := hz
        refine Lq_ixaddr (k := .i64) v_l i _ g27 off28 el35 hl29 (by omega) (by kernel_rfl) (by kernel_rfl) (Lq_run (.pointer (some ⟨g27, ((off28 + i * 4) + 1), none⟩)) (fun _ => by kernel_rfl) (Lq_load g27 ((off28 + i * 4) + 1) (.int .i32 x5.2.1) (by kernel_rfl) (fun _ => by kernel_rfl) (hc30 1 _ rfl) (Lq_mv (Lq_mv ?_))))
        have hz := (p_l).at (k := 4) (fun _ => rfl) hx6
        obtain ⟨g33, off34, hl35, hc36⟩ := hz
        refine Lq_ixaddr (k := .i64) v_l i _ g33 off34 el35 hl35 (by omega) (by kernel_rfl) (by kernel_rfl) (Lq_run (.pointer (some ⟨g33, ((off34 + i * 4) + 2), none⟩)) (fun _ => by kernel_rfl) (Lq_load g33 ((off34 + i * 4) + 2) (.int .i32 x5.2.2.1) (by kernel_rfl) (fun _ => by kernel_rfl) (hc36 2 _ rfl) (Lq_cmp .i32 x5.2.1 x5.2.2.1 (x5.2.1 = x5.2.2.1) rfl (cmp_eq x5.2.1 x5.2.2.1) (by kernel_rfl) (by kernel_rfl) ?_ ?_)))
        · intro h37
          replace h37 : x5.2.1 = x5.2.2.1 := by omega
          refine Lq_nil ?_
          intro w38 hB39
          replace hb := hb.trans (hB39.mono hs)
          replace hs := Nat.le_trans hs (hB39.size)
          replace p_l := p_l.below hB39
          refine thenQ_normal (W_true (by kernel_rfl) (W_seq (W_region (L_mv (L_as (L_as (L_nil (thenQ_normal (W_ret (thenQ_ret (blkQ_ret (thenQ_ret (thenQ_ret (blkQ_ret (thenQ_ret ?_)))))))))))))))
          refine end_ret [.tmp 2, .tmp 3] [(.int .i64 ((i : Nat) : Int)), (.int .i64 91)] rfl hds ⟨by kernel_rfl, by kernel_rfl, trivial⟩ ?_
          have hE : (i = (mcheckF l).1) ∧ ((91 : Int) = (mcheckF l).2) := ⟨(by (rw [invA_self i3 (by assumption) (by assumption) (by assumption) (by assumption)]; done)), (by (rw [invA_self i3 (by assumption) (by assumption) (by assumption) (by assumption)]; done))⟩
          exact ⟨tup2 (congrArg (fun x : Nat => Value.int .i64 (x : Int)) hE.1) (congrArg (Value.int .i64) hE.2), hb⟩
        · intro h40
          replace h40 : x5.2.1 ≠ x5.2.2.1 := by omega
          refine Lq_nil ?_
          intro w41 hB42
          replace hb := hb.trans (hB42.mono hs)
          replace hs := Nat.le_trans hs (hB42.size)
          replace p_l := p_l.below hB42
          refine thenQ_normal (W_false (by kernel_rfl) (W_skip (thenQ_normal (W_seq (W_region (L_as (L_nil (thenQ_normal (W_block ?_)))))))))
          refine W_loop (fun m s0 w0 => ∃ (k : Nat), (m = i - k) ∧ (s0.ds = []) ∧ (s0.f 0 = v_l) ∧ (s0.f 4 = (.int .i64 ((i : Nat) : Int))) ∧ (s0.f 5 = (.int .i64 ((k : Nat) : Int))) ∧ (Rd w0 encMir v_l l) ∧ (Below w.heap.size w w0) ∧ (w.heap.size ≤ w0.heap.size) ∧ (k ≤ i) ∧ (noFr l i k)) _ ⟨0, rfl, hds, by kernel_rfl, by kernel_rfl, by kernel_rfl, p_l, hb, hs, (Nat.zero_le _), noFr_zero l i⟩ ?_
          rintro m43 s44 w45 ⟨k, hm, hds, f_0, f_4, f_5, p_l, hb, hs, i4, i5⟩
          refine W_set 0 _ f_0 (W_set 4 _ f_4 (W_set 5 _ f_5 ?_))
          clear f_0 f_4 f_5
          refine W_seq (W_seq (W_region (L_mv (L_mv (L_cmp .i64 ((k : Nat) : Int) ((i : Nat) : Int) (k < i) rfl (cmpN_lt k i) (by kernel_rfl) (by kernel_rfl) ?_ ?_)))))
          · intro h46
            replace h46 : k < i := by omega
            refine L_nil (thenQ_normal (W_true (by kernel_rfl) (W_skip (thenQ_normal (W_seq (W_block (W_seq (W_quiet (by kernel_rfl) (by kernel_rfl) (Lq_mv (Lq_mv ?_))))))))))
            have hz := get_some l k (by omega); obtain ⟨x47, hx48⟩ := hz
            have hz := (p_l).at (k := 4) (fun _ => rfl) hx48
            obtain ⟨g49, off50, hl51, hc52⟩ := hz
            refine Lq_ixaddr (k := .i64) v_l k _ g49 off50 el35 hl51 (by omega) (by kernel_rfl) (by kernel_rfl) (Lq_run (.pointer (some ⟨g49, ((off50 + k * 4) + 1), none⟩)) (fun _ => by kernel_rfl) (Lq_load g49 ((off50 + k * 4) + 1) (.int .i32 x47.2.1) (by kernel_rfl) (fun _ => by kernel_rfl) (hc52 1 _ rfl) (Lq_mv (Lq_mv ?_))))
            have hz := (p_l).at (k := 4) (fun _ => rfl) hx6
            obtain ⟨g55, off56, hl57, hc58⟩ := hz
            refine Lq_ixaddr (k := .i64) v_l i _ g55 off56 el35 hl57 (by omega) (by kernel_rfl) (by kernel_rfl) (Lq_run (.pointer (some ⟨g55, ((off56 + i * 4) + 1), none⟩)) (fun _ => by kernel_rfl) (Lq_load g55 ((off56 + i * 4) + 1) (.int .i32 x5.2.1) (by kernel_rfl) (fun _ => by kernel_rfl) (hc58 1 _ rfl) (Lq_cmp .i32 x47.2.1 x5.2.1 (x47.2.1 = x5.2.1) rfl (cmp_eq x47.2.1 x5.2.1) (by kernel_rfl) (by kernel_rfl) ?_ ?_)))
            · intro h59
              replace h59 : x47.2.1 = x5.2.1 := by omega
              refine Lq_nil ?_
              intro w60 hB61
              replace hb := hb.trans (hB61.mono hs)
              replace hs := Nat.le_trans hs (hB61.size)
              replace p_l := p_l.below hB61
              refine thenQ_normal (W_true (by kernel_rfl) (W_seq (W_region (L_mv (L_as (L_as (L_nil (thenQ_normal (W_ret (blkQ_ret (thenQ_ret (thenQ_ret (blkQ_ret (blkQ_ret (thenQ_ret (thenQ_ret (blkQ_ret (thenQ_ret ?_))))))))))))))))))
              refine end_ret [.tmp 2, .tmp 3] [(.int .i64 ((i : Nat) : Int)), (.int .i64 92)] rfl hds ⟨by kernel_rfl, by kernel_rfl, trivial⟩ ?_
              have hE : (i = (mcheckF l).1) ∧ ((92 : Int) = (mcheckF l).2) := ⟨(by (rw [invA_again i3 (by assumption) (by assumption) (by assumption) (by assumption) (seen_at (by assumption) (by assumption) (by assumption) (by omega))]; done)), (by (rw [invA_again i3 (by assumption) (by assumption) (by assumption) (by assumption) (seen_at (by assumption) (by assumption) (by assumption) (by omega))]; done))⟩
              exact ⟨tup2 (congrArg (fun x : Nat => Value.int .i64 (x : Int)) hE.1) (congrArg (Value.int .i64) hE.2), hb⟩
            · intro h62
              replace h62 : x47.2.1 ≠ x5.2.1 := by omega
              refine Lq_nil ?_
              intro w63 hB64
              replace hb := hb.trans (hB64.mono hs)
              replace hs := Nat.le_trans hs (hB64.size)
              replace p_l := p_l.below hB64
              refine thenQ_normal (W_false (by kernel_rfl) (W_skip (blkQ_normal (thenQ_normal (W_region (L_mv (L_addN k 1 (by omega) (by kernel_rfl) (by kernel_rfl) (L_as (L_nil ?_)))))))))
              refine thenQ_normal ⟨_, ?_, (k + 1), rfl, hds, by kernel_rfl, by kernel_rfl, by kernel_rfl, p_l, hb, hs, ?_, ?_⟩
              · omega
              · omega
              · exact noFr_succ i5 (by assumption) (by assumption) (by assumption)
          · intro h65
            replace h65 : i ≤ k := by omega
            refine L_nil (thenQ_normal (W_false (by kernel_rfl) (W_exit (thenQ_exit (thenQ_exit (blkQ_exit (blkQ_normal (thenQ_normal (W_region (L_mv (L_addN i 1 (by omega) (by kernel_rfl) (by kernel_rfl) (L_as (L_nil ?_)))))))))))))
            refine thenQ_normal ⟨_, ?_, (i + 1), rfl, hds, by kernel_rfl, by kernel_rfl, p_l, hb, hs, ?_, ?_⟩
            · omega
            · omega
            · exact invA_succ i3 (by assumption) (by assumption) (by assumption) (by assumption) (seen_none i5 (by omega) (by assumption))
      · intro h66
        refine L_want (by kernel_rfl) (L_not false (by kernel_rfl) (L_pickF (by kernel_rfl) (L_nil (thenQ_normal (W_true (by kernel_rfl) (W_seq (W_region (L_mv (L_as (L_as (L_nil (thenQ_normal (W_ret (thenQ_ret (blkQ_ret (thenQ_ret (thenQ_ret (blkQ_ret (thenQ_ret ?_)))))))))))))))))))
        refine end_ret [.tmp 2, .tmp 3] [(.int .i64 ((i : Nat) : Int)), (.int .i64 2)] rfl hds ⟨by kernel_rfl, by kernel_rfl, trivial⟩ ?_
        have hE : (i = (mcheckF l).1) ∧ ((2 : Int) = (mcheckF l).2) := ⟨(by (rw [invA_arg i3 (by assumption) (.inr (by assumption))]; done)), (by (rw [invA_arg i3 (by assumption) (.inr (by assumption))]; done))⟩
        exact ⟨tup2 (congrArg (fun x : Nat => Value.int .i64 (x : Int)) hE.1) (congrArg (Value.int .i64) hE.2), hb⟩
    · intro h67
      refine L_not false (by kernel_rfl) (L_mv (L_skip (by kernel_rfl) (L_skip (by kernel_rfl) (L_skip (by kernel_rfl) (L_skip (by kernel_rfl) (L_skip (by kernel_rfl) (L_skip (by kernel_rfl) (L_skip (by kernel_rfl) (L_pickT (by kernel_rfl) (L_nil (thenQ_normal (W_true (by kernel_rfl) (W_seq (W_region (L_mv (L_as (L_as (L_nil (thenQ_normal (W_ret (thenQ_ret (blkQ_ret (thenQ_ret (thenQ_ret (blkQ_ret (thenQ_ret ?_))))))))))))))))))))))))))
      refine end_ret [.tmp 2, .tmp 3] [(.int .i64 ((i : Nat) : Int)), (.int .i64 2)] rfl hds ⟨by kernel_rfl, by kernel_rfl, trivial⟩ ?_
      have hE : (i = (mcheckF l).1) ∧ ((2 : Int) = (mcheckF l).2) := ⟨(by (rw [invA_arg i3 (by assumption) (.inl (by assumption))]; done)), (by (rw [invA_arg i3 (by assumption) (.inl (by assumption))]; done))⟩
      exact ⟨tup2 (congrArg (fun x : Nat => Value.int .i64 (x : Int)) hE.1) (congrArg (Value.int .i64) hE.2), hb⟩
  · intro h68
    replace h68 : (l).length ≤ i := by omega
    refine L_nil (thenQ_normal (W_false (by kernel_rfl) (W_exit (thenQ_exit (thenQ_exit (blkQ_exit (thenQ_normal (W_seq (W_seq (W_region (L_as (L_nil (thenQ_normal (W_block ?_))))))))))))))
    refine W_loop (fun m s0 w0 => ∃ (i : Nat), (m = l.length - i) ∧ (s0.ds = []) ∧ (s0.f 0 = v_l) ∧ (s0.f 6 = (.int .i64 ((i : Nat) : Int))) ∧ (Rd w0 encMir v_l l) ∧ (Below w.heap.size w w0) ∧ (w.heap.size ≤ w0.heap.size) ∧ (i ≤ l.length) ∧ ((chkA [] 0 l).2 = 0) ∧ (invB l i)) _ ⟨0, rfl, hds, by kernel_rfl, by kernel_rfl, p_l, hb, hs, (Nat.zero_le _), invA_end i3 (by omega), invB_zero l⟩ ?_
    rintro m69 s70 w71 ⟨i, hm, hds, f_0, f_6, p_l, hb, hs, i6, i7, i8⟩
    refine W_set 0 _ f_0 (W_set 6 _ f_6 ?_)
    clear f_0 f_6
    refine W_seq (W_seq (W_region (L_mv (L_mv (L_len 35 27 (l).length v_l rfl Tryd.underlying35 (p_l).len (by kernel_rfl) (L_cmp .i64 ((i : Nat) : Int) (((l).length : Nat) : Int) (i < (l).length) rfl (cmpN_lt i ((l).length)) (by kernel_rfl) (by kernel_rfl) ?_ ?_))))))
    · intro h72
      replace h72 : i < (l).length := by omega
      refine L_nil (thenQ_normal (W_true (by kernel_rfl) (W_skip (thenQ_normal (W_seq (W_block (W_seq (W_region (L_as (L_nil (thenQ_normal (W_seq (W_seq (W_region (L_as (L_nil (thenQ_normal (W_block ?_))))))))))))))))))
      refine W_loop (fun m s0 w0 => ∃ (k : Nat) (bk : Bool), (m = l.length - k) ∧ (s0.ds = []) ∧ (s0.f 0 = v_l) ∧ (s0.f 6 = (.int .i64 ((i : Nat) : Int))) ∧ (s0.f 7 = (.bool bk)) ∧ (s0.f 8 = (.int .i64 ((k : Nat) : Int))) ∧ (Rd w0 encMir v_l l) ∧ (Below w.heap.size w w0) ∧ (w.heap.size ≤ w0.heap.size) ∧ (k ≤ l.length) ∧ (bk = backP l i k)) _ ⟨0, false, rfl, hds, by kernel_rfl, by kernel_rfl, by kernel_rfl, by kernel_rfl, p_l, hb, hs, (Nat.zero_le _), rfl⟩ ?_
      rintro m73 s74 w75 ⟨k, bk, hm, hds, f_0, f_6, f_7, f_8, p_l, hb, hs, i9, i10⟩
      refine W_set 0 _ f_0 (W_set 6 _ f_6 (W_set 7 _ f_7 (W_set 8 _ f_8 ?_)))
      clear f_0 f_6 f_7 f_8
      refine W_seq (W_seq (W_region (L_mv (L_mv (L_len 35 27 (l).length v_l rfl Tryd.underlying35 (p_l).len (by kernel_rfl) (L_cmp .i64 ((k : Nat) : Int) (((l).length : Nat) : Int) (k < (l).length) rfl (cmpN_lt k ((l).length)) (by kernel_rfl) (by kernel_rfl) ?_ ?_))))))
      · intro h76
        replace h76 : k < (l).length := by omega
        refine L_nil (thenQ_normal (W_true (by kernel_rfl) (W_skip (thenQ_normal (W_seq (W_block (W_quiet (by kernel_rfl) (by kernel_rfl) (Lq_mv (Lq_mv ?_)))))))))
        cases bk
        · skip
          refine Lq_want (by kernel_rfl) (Lq_mv (Lq_want (by kernel_rfl) (Lq_mv (Lq_want (by kernel_rfl) ?_))))
          have hz := get_some l k (by omega); obtain ⟨x77, hx78⟩ := hz
          have hz := (p_l).at (k := 4) (fun _ => rfl) hx78
          obtain ⟨g79, off80, hl81, hc82⟩ := hz
          refine Lq_ixaddr (k := .i64) v_l k _ g79 off80 el35 hl81 (by omega) (by kernel_rfl) (by kernel_rfl) (Lq_want (by kernel_rfl) (Lq_run (.pointer (some ⟨g79, ((off80 + k * 4) + 1), none⟩)) (fun _ => by kernel_rfl) (Lq_want (by kernel_rfl) (Lq_load g79 ((off80 + k * 4) + 1) (.int .i32 x77.2.1) (by kernel_rfl) (fun _ => by kernel_rfl) (hc82 1 _ rfl) (Lq_want (by kernel_rfl) (Lq_mv (Lq_want (by kernel_rfl) (Lq_mv (Lq_want (by kernel_rfl) ?_)))))))))
          have hz := get_some l i (by omega); obtain ⟨x83, hx84⟩ := hz
          have hz := (p_l).at (k := 4) (fun _ => rfl) hx84
          obtain ⟨g85, off86, hl87, hc88⟩ := hz
          refine Lq_ixaddr (k := .i64) v_l i _ g85 off86 el35 hl87 (by omega) (by kernel_rfl) (by kernel_rfl) (Lq_want (by kernel_rfl) (Lq_run (.pointer (some ⟨g85, ((off86 + i * 4) + 2), none⟩)) (fun _ => by kernel_rfl) (Lq_want (by kernel_rfl) (Lq_load g85 ((off86 + i * 4) + 2) (.int .i32 x83.2.2.1) (by kernel_rfl) (fun _ => by kernel_rfl) (hc88 2 _ rfl) (Lq_want (by kernel_rfl) (Lq_cmp .i32 x77.2.1 x83.2.2.1 (x77.2.1 = x83.2.2.1) rfl (cmp_eq x77.2.1 x83.2.2.1) (by kernel_rfl) (by kernel_rfl) ?_ ?_))))))
          · intro h89
            replace h89 : x77.2.1 = x83.2.2.1 := by omega
            refine Lq_want (by kernel_rfl) (Lq_mv (Lq_want (by kernel_rfl) (Lq_mv (Lq_want (by kernel_rfl) (Lq_mv (Lq_want (by kernel_rfl) ?_))))))
            have hz := (p_l).at (k := 4) (fun _ => rfl) hx78
            obtain ⟨g92, off93, hl94, hc95⟩ := hz
            refine Lq_ixaddr (k := .i64) v_l k _ g92 off93 el35 hl94 (by omega) (by kernel_rfl) (by kernel_rfl) (Lq_want (by kernel_rfl) (Lq_run (.pointer (some ⟨g92, ((off93 + k * 4) + 2), none⟩)) (fun _ => by kernel_rfl) (Lq_want (by kernel_rfl) (Lq_load g92 ((off93 + k * 4) + 2) (.int .i32 x77.2.2.1) (by kernel_rfl) (fun _ => by kernel_rfl) (hc95 2 _ rfl) (Lq_want (by kernel_rfl) (Lq_mv (Lq_want (by kernel_rfl) (Lq_mv (Lq_want (by kernel_rfl) ?_)))))))))
            have hz := (p_l).at (k := 4) (fun _ => rfl) hx84
            obtain ⟨g98, off99, hl100, hc101⟩ := hz
            refine Lq_ixaddr (k := .i64) v_l i _ g98 off99 el35 hl100 (by omega) (by kernel_rfl) (by kernel_rfl) (Lq_want (by kernel_rfl) (Lq_run (.pointer (some ⟨g98, ((off99 + i * 4) + 1), none⟩)) (fun _ => by kernel_rfl) (Lq_want (by kernel_rfl) (Lq_load g98 ((off99 + i * 4) + 1) (.int .i32 x83.2.1) (by kernel_rfl) (fun _ => by kernel_rfl) (hc101 1 _ rfl) (Lq_want (by kernel_rfl) (Lq_cmp .i32 x77.2.2.1 x83.2.1 (x77.2.2.1 = x83.2.1) rfl (cmp_eq x77.2.2.1 x83.2.1) (by kernel_rfl) (by kernel_rfl) ?_ ?_))))))
            · intro h102
              replace h102 : x77.2.2.1 = x83.2.1 := by omega
              refine Lq_want (by kernel_rfl) (Lq_pickT (by kernel_rfl) (Lq_pickF (by kernel_rfl) (Lq_as (Lq_nil ?_))))
              intro w103 hB104
              replace hb := hb.trans (hB104.mono hs)
              replace hs := Nat.le_trans hs (hB104.size)
              replace p_l := p_l.below hB104
              refine blkQ_normal (thenQ_normal (W_region (L_mv (L_addN k 1 (by omega) (by kernel_rfl) (by kernel_rfl) (L_as (L_nil ?_))))))
              refine thenQ_normal ⟨_, ?_, (k + 1), true, rfl, hds, by kernel_rfl, by kernel_rfl, by kernel_rfl, by kernel_rfl, p_l, hb, hs, ?_, ?_⟩
              · omega
              · omega
              · exact backP_yes (by assumption) (by assumption) (by assumption) (by assumption)
            · intro h105
              replace h105 : x77.2.2.1 ≠ x83.2.1 := by omega
              refine Lq_want (by kernel_rfl) (Lq_pickT (by kernel_rfl) (Lq_pickF (by kernel_rfl) (Lq_as (Lq_nil ?_))))
              intro w106 hB107
              replace hb := hb.trans (hB107.mono hs)
              replace hs := Nat.le_trans hs (hB107.size)
              replace p_l := p_l.below hB107
              refine blkQ_normal (thenQ_normal (W_region (L_mv (L_addN k 1 (by omega) (by kernel_rfl) (by kernel_rfl) (L_as (L_nil ?_))))))
              refine thenQ_normal ⟨_, ?_, (k + 1), false, rfl, hds, by kernel_rfl, by kernel_rfl, by kernel_rfl, by kernel_rfl, p_l, hb, hs, ?_, ?_⟩
              · omega
              · omega
              · exact backP_no (by assumption) (by assumption) i10 (.inr (by assumption))
          · intro h108
            replace h108 : x77.2.1 ≠ x83.2.2.1 := by omega
            refine Lq_want (by kernel_rfl) (Lq_mv (Lq_skip (by kernel_rfl) (Lq_skip (by kernel_rfl) (Lq_skip (by kernel_rfl) (Lq_skip (by kernel_rfl) (Lq_skip (by kernel_rfl) (Lq_skip (by kernel_rfl) (Lq_skip (by kernel_rfl) (Lq_skip (by kernel_rfl) (Lq_skip (by kernel_rfl) (Lq_skip (by kernel_rfl) (Lq_skip (by kernel_rfl) (Lq_want (by kernel_rfl) (Lq_pickF (by kernel_rfl) (Lq_pickF (by kernel_rfl) (Lq_as (Lq_nil ?_)))))))))))))))))
            intro w109 hB110
            replace hb := hb.trans (hB110.mono hs)
            replace hs := Nat.le_trans hs (hB110.size)
            replace p_l := p_l.below hB110
            refine blkQ_normal (thenQ_normal (W_region (L_mv (L_addN k 1 (by omega) (by kernel_rfl) (by kernel_rfl) (L_as (L_nil ?_))))))
            refine thenQ_normal ⟨_, ?_, (k + 1), false, rfl, hds, by kernel_rfl, by kernel_rfl, by kernel_rfl, by kernel_rfl, p_l, hb, hs, ?_, ?_⟩
            · omega
            · omega
            · exact backP_no (by assumption) (by assumption) i10 (.inl (by assumption))
        · skip
          refine Lq_skip (by kernel_rfl) (Lq_skip (by kernel_rfl) (Lq_skip (by kernel_rfl) (Lq_skip (by kernel_rfl) (Lq_skip (by kernel_rfl) (Lq_skip (by kernel_rfl) (Lq_skip (by kernel_rfl) (Lq_skip (by kernel_rfl) (Lq_skip (by kernel_rfl) (Lq_skip (by kernel_rfl) (Lq_skip (by kernel_rfl) (Lq_skip (by kernel_rfl) (Lq_skip (by kernel_rfl) (Lq_skip (by kernel_rfl) (Lq_skip (by kernel_rfl) (Lq_skip (by kernel_rfl) (Lq_skip (by kernel_rfl) (Lq_skip (by kernel_rfl) (Lq_skip (by kernel_rfl) (Lq_skip (by kernel_rfl) (Lq_skip (by kernel_rfl) (Lq_skip (by kernel_rfl) (Lq_skip (by kernel_rfl) (Lq_skip (by kernel_rfl) (Lq_pickT (by kernel_rfl) (Lq_as (Lq_nil ?_))))))))))))))))))))))))))
          intro w111 hB112
          replace hb := hb.trans (hB112.mono hs)
          replace hs := Nat.le_trans hs (hB112.size)
          replace p_l := p_l.below hB112
          refine blkQ_normal (thenQ_normal (W_region (L_mv (L_addN k 1 (by omega) (by kernel_rfl) (by kernel_rfl) (L_as (L_nil ?_))))))
          refine thenQ_normal ⟨_, ?_, (k + 1), true, rfl, hds, by kernel_rfl, by kernel_rfl, by kernel_rfl, by kernel_rfl, p_l, hb, hs, ?_, ?_⟩
          · omega
          · omega
          · exact backP_old (get_some l k (by omega)).choose_spec i10
      · intro h113
        replace h113 : (l).length ≤ k := by omega
        refine L_nil (thenQ_normal (W_false (by kernel_rfl) (W_exit (thenQ_exit (thenQ_exit (blkQ_exit (thenQ_normal (W_seq (W_region (L_mv (L_not bk (by kernel_rfl) (L_nil (thenQ_normal ?_)))))))))))))
        rcases Bool.eq_false_or_eq_true (!bk) with hc114 | hc114
        · skip
          refine W_ifT hc114 (by kernel_rfl) (W_seq (W_region (L_mv (L_as (L_as (L_nil (thenQ_normal (W_ret (blkQ_ret (thenQ_ret (thenQ_ret (blkQ_ret (thenQ_ret ?_)))))))))))))
          refine end_ret [.tmp 2, .tmp 3] [(.int .i64 ((i : Nat) : Int)), (.int .i64 90)] rfl hds ⟨by kernel_rfl, by kernel_rfl, trivial⟩ ?_
          have hE : (i = (mcheckF l).1) ∧ ((90 : Int) = (mcheckF l).2) := ⟨(by (rw [twist2 i7 i8 (by omega) (notF (by assumption) i10) (by omega)]; done)), (by (rw [twist2 i7 i8 (by omega) (notF (by assumption) i10) (by omega)]; done))⟩
          exact ⟨tup2 (congrArg (fun x : Nat => Value.int .i64 (x : Int)) hE.1) (congrArg (Value.int .i64) hE.2), hb⟩
        · skip
          refine W_ifF hc114 (by kernel_rfl) (W_skip (blkQ_normal (thenQ_normal (W_region (L_mv (L_addN i 1 (by omega) (by kernel_rfl) (by kernel_rfl) (L_as (L_nil ?_))))))))
          refine thenQ_normal ⟨_, ?_, (i + 1), rfl, hds, by kernel_rfl, by kernel_rfl, p_l, hb, hs, ?_, ?_, ?_⟩
          · omega
          · omega
          · exact i7
          · exact invB_succ2 i8 (by omega) (notT (by assumption) i10) (by omega)
    · intro h115
      replace h115 : (l).length ≤ i := by omega
      refine L_nil (thenQ_normal (W_false (by kernel_rfl) (W_exit (thenQ_exit (thenQ_exit (blkQ_exit (thenQ_normal (W_seq (W_region (L_as (L_as (L_nil (thenQ_normal (W_ret ?_))))))))))))))
      refine end_ret [.tmp 2, .tmp 3] [(.int .i64 0), (.int .i64 0)] rfl hds ⟨by kernel_rfl, by kernel_rfl, trivial⟩ ?_
      have hE : (0 = (mcheckF l).1) ∧ ((0 : Int) = (mcheckF l).2) := ⟨(by (rw [invB_end i7 i8 (by omega)]; done)), (by (rw [invB_end i7 i8 (by omega)]; done))⟩
      exact ⟨tup2 (congrArg (fun x : Nat => Value.int .i64 (x : Int)) hE.1) (congrArg (Value.int .i64) hE.2), hb⟩

set_option maxHeartbeats 4000000 in
set_option maxRecDepth 100000 in
theorem c_furrowref09_Of (v_l : Value) (l : List (Mir)) (r : Int) (w : World) (p_l : Rd w encMir v_l l) (hl : l.length ≤ 1073741824) :
    Calls Tryd.prog 21 #[v_l, (.int .i32 r)] w (Ret fun v w' => v = (.tuple #[(.int .i32 ((ofF l r).1)), (.bool ((ofF l r).2))]) ∧ Below w.heap.size w w') := by
  refine enter (args := [v_l, (.int .i32 r)]) Tryd.func21 rfl (by kernel_rfl : _ = 26) (by kernel_rfl) ?_
  have hb := Below.refl w.heap.size w
  have hs : w.heap.size ≤ w.heap.size := Nat.le_refl _
  have in_p_l := p_l
  refine W_seq (W_region (L_as (L_as (L_nil (thenQ_normal (W_seq (W_seq (W_region (L_as (L_nil (thenQ_normal (W_block ?_))))))))))))
  refine W_loop (fun m s0 w0 => ∃ (i : Nat), (m = l.length - i) ∧ (s0.ds = []) ∧ (s0.f 0 = v_l) ∧ (s0.f 1 = (.int .i32 r)) ∧ (s0.f 6 = (.int .i64 ((i : Nat) : Int))) ∧ (Rd w0 encMir v_l l) ∧ (Below w.heap.size w w0) ∧ (w.heap.size ≤ w0.heap.size) ∧ (i ≤ l.length) ∧ (mget (prs (l.take i)) r = none)) _ ⟨0, rfl, by kernel_rfl, by kernel_rfl, by kernel_rfl, by kernel_rfl, p_l, hb, hs, (Nat.zero_le _), rfl⟩ ?_
  rintro m1 s2 w3 ⟨i, hm, hds, f_0, f_1, f_6, p_l, hb, hs, i1, i3⟩
  refine W_set 0 _ f_0 (W_set 1 _ f_1 (W_set 6 _ f_6 ?_))
  clear f_0 f_1 f_6
  refine W_seq (W_seq (W_region (L_mv (L_mv (L_len 35 27 (l).length v_l rfl Tryd.underlying35 (p_l).len (by kernel_rfl) (L_cmp .i64 ((i : Nat) : Int) (((l).length : Nat) : Int) (i < (l).length) rfl (cmpN_lt i ((l).length)) (by kernel_rfl) (by kernel_rfl) ?_ ?_))))))
  · intro h4
    replace h4 : i < (l).length := by omega
    refine L_nil (thenQ_normal (W_true (by kernel_rfl) (W_skip (thenQ_normal (W_seq (W_block (W_seq (W_region (L_mv (L_mv ?_))))))))))
    have hz := get_some l i (by omega); obtain ⟨x5, hx6⟩ := hz
    have hz := (p_l).at (k := 4) (fun _ => rfl) hx6
    obtain ⟨g7, off8, hl9, hc10⟩ := hz
    refine L_ixaddr (k := .i64) v_l i _ g7 off8 el35 hl9 (by omega) (by kernel_rfl) (by kernel_rfl) (L_run (.pointer (some ⟨g7, ((off8 + i * 4) + 1), none⟩)) (by kernel_rfl) (by kernel_rfl) (L_load g7 ((off8 + i * 4) + 1) (.int .i32 x5.2.1) (by kernel_rfl) (by kernel_rfl) (hc10 1 _ rfl) (L_mv (L_cmp .i32 x5.2.1 r (x5.2.1 = r) rfl (cmp_eq x5.2.1 r) (by kernel_rfl) (by kernel_rfl) ?_ ?_))))
    · intro h11
      replace h11 : x5.2.1 = r := by omega
      refine L_nil (thenQ_normal (W_true (by kernel_rfl) (W_seq (W_region (L_mv (L_mv ?_))))))
      have hz := (p_l).at (k := 4) (fun _ => rfl) hx6
      obtain ⟨g14, off15, hl16, hc17⟩ := hz
      refine L_ixaddr (k := .i64) v_l i _ g14 off15 el35 hl16 (by omega) (by kernel_rfl) (by kernel_rfl) (L_run (.pointer (some ⟨g14, ((off15 + i * 4) + 2), none⟩)) (by kernel_rfl) (by kernel_rfl) (L_load g14 ((off15 + i * 4) + 2) (.int .i32 x5.2.2.1) (by kernel_rfl) (by kernel_rfl) (hc17 2 _ rfl) (L_as (L_as (L_nil (thenQ_normal (W_ret (blkQ_ret (thenQ_ret (thenQ_ret (blkQ_ret (thenQ_ret ?_))))))))))))
      refine end_ret [.tmp 4, .tmp 5] [(.int .i32 x5.2.2.1), (.bool true)] rfl hds ⟨by kernel_rfl, by kernel_rfl, trivial⟩ ?_
      have hE : ((x5.2.2.1 : Int) = (ofF l r).1) ∧ (true = (ofF l r).2) := ⟨(by (rw [of_here i3 (by assumption) (by assumption)]; done)), (by (rw [of_here i3 (by assumption) (by assumption)]; done))⟩
      exact ⟨tup2 (congrArg (Value.int .i32) hE.1) (congrArg Value.bool hE.2), hb⟩
    · intro h18
      replace h18 : x5.2.1 ≠ r := by omega
      refine L_nil (thenQ_normal (W_false (by kernel_rfl) (W_skip (blkQ_normal (thenQ_normal (W_region (L_mv (L_addN i 1 (by omega) (by kernel_rfl) (by kernel_rfl) (L_as (L_nil ?_))))))))))
      refine thenQ_normal ⟨_, ?_, (i + 1), rfl, hds, by kernel_rfl, by kernel_rfl, by kernel_rfl, p_l, hb, hs, ?_, ?_⟩
      · omega
      · omega
      · exact of_step i3 (by assumption) (by assumption)
  · intro h19
    replace h19 : (l).length ≤ i := by omega
    refine L_nil (thenQ_normal (W_false (by kernel_rfl) (W_exit (thenQ_exit (thenQ_exit (blkQ_exit (thenQ_normal (W_seq (W_region (L_mv (L_as (L_as (L_nil (thenQ_normal (W_ret ?_)))))))))))))))
    refine end_ret [.tmp 4, .tmp 5] [(.int .i32 r), (.bool false)] rfl hds ⟨by kernel_rfl, by kernel_rfl, trivial⟩ ?_
    have hE : ((r : Int) = (ofF l r).1) ∧ (false = (ofF l r).2) := ⟨(by (rw [of_none i3 (by omega)]; done)), (by (rw [of_none i3 (by omega)]; done))⟩
    exact ⟨tup2 (congrArg (Value.int .i32) hE.1) (congrArg Value.bool hE.2), hb⟩

end Go.Proofs.YtjdcmeoiommglaaDoor
