/- Walks, written by my program walk.py out of the specification lscan.py: each theorem says what one function returns and that it leaves memory as it was. -/
import Derived.Test.YtjdcmeoiommglaaDoorPLpcs
import Derived.Test.YtjdcmeoiommglaaDoorWllines
import Derived.Test.YtjdcmeoiommglaaDoorFKv
import Derived.Test.YtjdcmeoiommglaaDoorProg
import Derived.Tactics2
namespace Go.Proofs.YtjdcmeoiommglaaDoor
open Go Go.RowKit Go.FK
set_option linter.unusedVariables false
set_option linter.unusedSimpArgs false


set_option maxHeartbeats 4000000 in
set_option maxRecDepth 100000 in
theorem c_lines_Scan (no : Int) (s : List UInt8) (w : World) (hs : s.length ≤ 1073741824) :
    Calls Tryd.prog 59 #[(.int .i64 no), (S s)] w (Ret fun v w' => ∃ (q0 : Value), v = (.tuple #[(Value.agg #[(.int .i64 ((scanF no s).1.1)), (.int .u8 ((scanF no s).1.2.1)), (S ((scanF no s).1.2.2.1)), q0, (S ((scanF no s).1.2.2.2.2))]), (.int .i64 ((scanF no s).2))]) ∧ Row w' w.heap.size 9 1 encStr q0 ((scanF no s).1.2.2.2.1) ∧ Below w.heap.size w w') := by
  refine enter (args := [(.int .i64 no), (S s)]) Tryd.func59 rfl (by kernel_rfl : _ = 84) (by kernel_rfl) ?_
  have hb := Below.refl w.heap.size w
  have hs : w.heap.size ≤ w.heap.size := Nat.le_refl _
  have hnl := cutF_len s
  refine W_seq (W_region (L_new (fun b => .pointer (some ⟨b, 0, none⟩)) (.cells [(.int .i64 0), (.int .u8 0), (S ([] : List UInt8)), (.slice none 0 0), (S ([] : List UInt8))].toArray 25 (0, 0)) (by kernel_rfl) (by kernel_rfl) ?_))
  intro b1 w2 hN3
  have g_x4 : w.heap.size ≤ b1 := by rw [hN3.num]; exact hs
  replace hb := hb.trans (hN3.below.mono hs)
  replace hs := Nat.le_trans hs (hN3.below.size)
  have o_x4 := hN3.here
  refine L_as (L_nil (thenQ_normal (W_seq (W_seq (W_region (L_mv (L_call 69 [(S s)] (by kernel_rfl) (by kernel_rfl) (c_lines_Check s _ (by first | omega | rfl | (simp only [List.length_drop, List.length_take] at *; omega))) ?_)))))))
  rintro _ w4 ⟨rfl, hB5⟩
  replace hb := hb.trans (hB5.mono hs)
  replace hs := Nat.le_trans hs (hB5.size)
  replace o_x4 := obj_below o_x4 hB5
  have := chkF_range s
  refine L_mv (L_run (.int .i64 (((chkF s).1 : Nat) : Int)) (by kernel_rfl) (by kernel_rfl) (L_run (.int .i64 ((chkF s).2)) (by kernel_rfl) (by kernel_rfl) (L_as (L_as (L_nil (thenQ_normal (W_seq (W_region (L_mv (L_cmp .i64 ((chkF s).2) 0 ((chkF s).2 ≠ 0) rfl (cmp_ne ((chkF s).2) 0) (by kernel_rfl) (by kernel_rfl) ?_ ?_))))))))))
  · intro h7
    replace h7 : (chkF s).2 ≠ 0 := by omega
    refine L_nil (thenQ_normal (W_true (by kernel_rfl) (W_seq (W_region (L_run (Value.agg #[(.int .i64 0), (.int .u8 0), (S ([] : List UInt8)), (.slice none 0 0), (S ([] : List UInt8))]) (by kernel_rfl) (by kernel_rfl) (L_mv (L_storeA b1 0 [(.int .i64 0), (.int .u8 0), (S ([] : List UInt8)), (.slice none 0 0), (S ([] : List UInt8))] [(.int .i64 0), (.int .u8 0), (S ([] : List UInt8)), (.slice none 0 0), (S ([] : List UInt8))] [(.int .i64 0), (.int .u8 0), (S ([] : List UInt8)), (.slice none 0 0), (S ([] : List UInt8))] 25 (by kernel_rfl) (by kernel_rfl) rfl (by kernel_rfl) o_x4 (by kernel_rfl) rfl ?_)))))))
    intro w8 hW9
    replace hb := hb.trans (hW9.below g_x4)
    replace hs := Nat.le_trans hs (Nat.le_of_eq hW9.size.symm)
    replace o_x4 := hW9.here
    refine L_as (L_nil (thenQ_normal (W_ret (thenQ_ret ?_))))
    refine end_ret [.cell 4 25, .tmp 5] [(Value.agg #[(.int .i64 0), (.int .u8 0), (S ([] : List UInt8)), (.slice none 0 0), (S ([] : List UInt8))]), (.int .i64 ((chkF s).2))] rfl rfl ⟨⟨⟨b1, 0, none⟩, by kernel_rfl, load_agg [(.int .i64 0), (.int .u8 0), (S ([] : List UInt8)), (.slice none 0 0), (S ([] : List UInt8))] (by kernel_rfl) (by kernel_rfl) (cells_obj o_x4)⟩, by kernel_rfl, trivial⟩ ?_
    have hE : ((Value.agg #[(.int .i64 0), (.int .u8 0), (S ([] : List UInt8)), (.slice none 0 0), (S ([] : List UInt8))]) = (Value.agg #[(.int .i64 ((scanF no s).1.1)), (.int .u8 ((scanF no s).1.2.1)), (S ((scanF no s).1.2.2.1)), (.slice none 0 0), (S ((scanF no s).1.2.2.2.2))])) ∧ (((chkF s).2 : Int) = (scanF no s).2) ∧ (([] : List (List UInt8)) = (scanF no s).1.2.2.2.1) := ⟨(by (rw [scan_bad (by assumption)]; try rfl; done)), (by (rw [scan_bad (by assumption)]; try rfl; done)), (by (rw [scan_bad (by assumption)]; try rfl; done))⟩
    exact ⟨(.slice none 0 0), tup2 (hE.1) (congrArg (Value.int .i64) hE.2.1), (Row.nil _ _ _ _ _).cast hE.2.2, hb⟩
  · intro h10
    replace h10 : (chkF s).2 = 0 := by omega
    refine L_nil (thenQ_normal (W_false (by kernel_rfl) (W_skip (thenQ_normal (W_seq (W_region (L_mv (L_run (Value.agg #[(.int .i64 no), (.int .u8 0), (S ([] : List UInt8)), (.slice none 0 0), (S ([] : List UInt8))]) (by kernel_rfl) (by kernel_rfl) (L_new (fun b => .pointer (some ⟨b, 0, none⟩)) (.cells [(.int .i64 0), (.int .u8 0), (S ([] : List UInt8)), (.slice none 0 0), (S ([] : List UInt8))].toArray 25 (0, 0)) (by kernel_rfl) (by kernel_rfl) ?_)))))))))
    intro b11 w12 hN13
    have ne_x4_x8 : b1 ≠ b11 := by have := (obj_lt o_x4); have := hN13.num; omega
    have ne_x8_x4 := ne_x4_x8.symm
    have g_x8 : w.heap.size ≤ b11 := by rw [hN13.num]; exact hs
    replace hb := hb.trans (hN13.below.mono hs)
    replace hs := Nat.le_trans hs (hN13.below.size)
    replace o_x4 := obj_below o_x4 hN13.below
    have o_x8 := hN13.here
    refine L_storeA b11 0 [(.int .i64 no), (.int .u8 0), (S ([] : List UInt8)), (.slice none 0 0), (S ([] : List UInt8))] [(.int .i64 0), (.int .u8 0), (S ([] : List UInt8)), (.slice none 0 0), (S ([] : List UInt8))] [(.int .i64 no), (.int .u8 0), (S ([] : List UInt8)), (.slice none 0 0), (S ([] : List UInt8))] 25 (by kernel_rfl) (by kernel_rfl) rfl (by kernel_rfl) o_x8 (by kernel_rfl) rfl ?_
    intro w14 hW15
    replace hb := hb.trans (hW15.below g_x8)
    replace hs := Nat.le_trans hs (Nat.le_of_eq hW15.size.symm)
    have n_o_x4 := obj_wrote o_x4 hW15 ne_x4_x8
    replace o_x4 := n_o_x4; clear n_o_x4
    replace o_x8 := hW15.here
    refine L_nil (thenQ_normal (W_seq (W_region (L_mv (L_call 70 [(S s)] (by kernel_rfl) (by kernel_rfl) (c_lines_Cut s _ (by first | omega | rfl | (simp only [List.length_drop, List.length_take] at *; omega))) ?_)))))
    rintro _ w17 ⟨q16, rfl, r_q16, hB18⟩
    replace r_q16 := r_q16.base hs
    replace hb := hb.trans (hB18.mono hs)
    replace hs := Nat.le_trans hs (hB18.size)
    replace o_x4 := obj_below o_x4 hB18
    replace o_x8 := obj_below o_x8 hB18
    refine L_mv (L_run q16 (by kernel_rfl) (by kernel_rfl) (L_run (S ((cutF s).2)) (by kernel_rfl) (by kernel_rfl) (L_run (.pointer (some ⟨b11, 3, none⟩)) (by kernel_rfl) (by kernel_rfl) (L_store b11 3 q16 [(.int .i64 no), (.int .u8 0), (S ([] : List UInt8)), (.slice none 0 0), (S ([] : List UInt8))] [(.int .i64 no), (.int .u8 0), (S ([] : List UInt8)), q16, (S ([] : List UInt8))] 25 (by kernel_rfl) (by kernel_rfl) r_q16.one (by kernel_rfl) o_x8 (by simp) rfl ?_))))
    intro w20 hW21
    replace hb := hb.trans (hW21.below g_x8)
    replace hs := Nat.le_trans hs (Nat.le_of_eq hW21.size.symm)
    have n_o_x4 := obj_wrote o_x4 hW21 ne_x4_x8
    have n_r_q16 := r_q16.wrote hW21 (r_q16.ne o_x8 (by simp))
    replace o_x4 := n_o_x4; clear n_o_x4
    replace r_q16 := n_r_q16; clear n_r_q16
    replace o_x8 := hW21.here
    refine L_run (.pointer (some ⟨b11, 4, none⟩)) (by kernel_rfl) (by kernel_rfl) (L_store b11 4 (S ((cutF s).2)) [(.int .i64 no), (.int .u8 0), (S ([] : List UInt8)), q16, (S ([] : List UInt8))] [(.int .i64 no), (.int .u8 0), (S ([] : List UInt8)), q16, (S ((cutF s).2))] 25 (by kernel_rfl) (by kernel_rfl) rfl (by kernel_rfl) o_x8 (by simp) rfl ?_)
    intro w22 hW23
    replace hb := hb.trans (hW23.below g_x8)
    replace hs := Nat.le_trans hs (Nat.le_of_eq hW23.size.symm)
    have n_o_x4 := obj_wrote o_x4 hW23 ne_x4_x8
    have n_r_q16 := r_q16.wrote hW23 (r_q16.ne o_x8 (by simp))
    replace o_x4 := n_o_x4; clear n_o_x4
    replace r_q16 := n_r_q16; clear n_r_q16
    replace o_x8 := hW23.here
    refine L_nil (thenQ_normal (W_seq (W_region (L_mv (L_call 71 [(S s), (S ([35] : List UInt8))] (by kernel_rfl) (by kernel_rfl) (c_strings_Cut s ([35] : List UInt8) _ (by first | omega | rfl | (simp only [List.length_drop, List.length_take] at *; omega)) (by first | omega | rfl | (simp only [List.length_drop, List.length_take] at *; omega))) ?_)))))
    rintro _ w24 ⟨rfl, hB25⟩
    replace hb := hb.trans (hB25.mono hs)
    replace hs := Nat.le_trans hs (hB25.size)
    replace o_x4 := obj_below o_x4 hB25
    replace o_x8 := obj_below o_x8 hB25
    replace r_q16 := r_q16.below hB25
    have := cutl_len s ([35] : List UInt8)
    refine L_mv (L_run (S ((Lib.cut s ([35] : List UInt8)).1)) (by kernel_rfl) (by kernel_rfl) (L_run (S ((Lib.cut s ([35] : List UInt8)).2.1)) (by kernel_rfl) (by kernel_rfl) (L_run (.bool ((Lib.cut s ([35] : List UInt8)).2.2)) (by kernel_rfl) (by kernel_rfl) (put_split ((Lib.cut s ([35] : List UInt8)).2.2) ?_ ?_))))
    · intro h27
      refine L_as (L_as (L_as (L_nil (thenQ_normal (W_seq (W_region (L_mv (L_call 72 [(S ((Lib.cut s ([35] : List UInt8)).1))] (by kernel_rfl) (by kernel_rfl) (c_lines_trim ((Lib.cut s ([35] : List UInt8)).1) _ (by first | omega | rfl | (simp only [List.length_drop, List.length_take] at *; omega))) ?_))))))))
      rintro _ w28 ⟨rfl, hB29⟩
      replace hb := hb.trans (hB29.mono hs)
      replace hs := Nat.le_trans hs (hB29.size)
      replace o_x4 := obj_below o_x4 hB29
      replace o_x8 := obj_below o_x8 hB29
      replace r_q16 := r_q16.below hB29
      have := trm_len ((Lib.cut s ([35] : List UInt8)).1)
      refine L_as (L_nil (thenQ_normal (W_seq (W_block (W_seq (W_region (L_mv (L_call 29 [(S (trmF ((Lib.cut s ([35] : List UInt8)).1))), (S ([64] : List UInt8))] (by kernel_rfl) (by kernel_rfl) (c_strings_HasPrefix (trmF ((Lib.cut s ([35] : List UInt8)).1)) ([64] : List UInt8) _ ) ?_))))))))
      rintro _ w31 ⟨rfl, hB32⟩
      replace hb := hb.trans (hB32.mono hs)
      replace hs := Nat.le_trans hs (hB32.size)
      replace o_x4 := obj_below o_x4 hB32
      replace o_x8 := obj_below o_x8 hB32
      replace r_q16 := r_q16.below hB32
      refine put_split (hpB (trmF ((Lib.cut s ([35] : List UInt8)).1)) ([64] : List UInt8)) ?_ ?_
      · intro h34
        have := hp_len h34; simp only [List.length_cons, List.length_nil] at this
        refine L_as (L_nil (thenQ_normal (W_true (by kernel_rfl) (W_seq (W_region (L_mv (L_ssfrom (trmF ((Lib.cut s ([35] : List UInt8)).1)) 1 Tryd.underlying9 (by kernel_rfl) ⟨.i64, by kernel_rfl⟩ (by first | omega | rfl | (simp only [List.length_drop, List.length_take] at *; omega)) (L_call 71 [(S (List.drop 1 (trmF ((Lib.cut s ([35] : List UInt8)).1)))), (S ([58] : List UInt8))] (by kernel_rfl) (by kernel_rfl) (c_strings_Cut (List.drop 1 (trmF ((Lib.cut s ([35] : List UInt8)).1))) ([58] : List UInt8) _ (by first | omega | rfl | (simp only [List.length_drop, List.length_take] at *; omega)) (by first | omega | rfl | (simp only [List.length_drop, List.length_take] at *; omega))) ?_))))))))
        rintro _ w35 ⟨rfl, hB36⟩
        replace hb := hb.trans (hB36.mono hs)
        replace hs := Nat.le_trans hs (hB36.size)
        replace o_x4 := obj_below o_x4 hB36
        replace o_x8 := obj_below o_x8 hB36
        replace r_q16 := r_q16.below hB36
        have := cutl_len (List.drop 1 (trmF ((Lib.cut s ([35] : List UInt8)).1))) ([58] : List UInt8)
        refine L_mv (L_run (S ((Lib.cut (List.drop 1 (trmF ((Lib.cut s ([35] : List UInt8)).1))) ([58] : List UInt8)).1)) (by kernel_rfl) (by kernel_rfl) (L_run (S ((Lib.cut (List.drop 1 (trmF ((Lib.cut s ([35] : List UInt8)).1))) ([58] : List UInt8)).2.1)) (by kernel_rfl) (by kernel_rfl) (L_run (.bool ((Lib.cut (List.drop 1 (trmF ((Lib.cut s ([35] : List UInt8)).1))) ([58] : List UInt8)).2.2)) (by kernel_rfl) (by kernel_rfl) (put_split ((Lib.cut (List.drop 1 (trmF ((Lib.cut s ([35] : List UInt8)).1))) ([58] : List UInt8)).2.2) ?_ ?_))))
        · intro h38
          refine L_as (L_as (L_as (L_nil (thenQ_normal (W_seq (W_seq (W_region (L_mv (L_not true (by kernel_rfl) (L_mv (L_want (by kernel_rfl) (L_mv (L_want (by kernel_rfl) (L_call 73 [(S ((Lib.cut (List.drop 1 (trmF ((Lib.cut s ([35] : List UInt8)).1))) ([58] : List UInt8)).1))] (by kernel_rfl) (by kernel_rfl) (c_lines_named ((Lib.cut (List.drop 1 (trmF ((Lib.cut s ([35] : List UInt8)).1))) ([58] : List UInt8)).1) _ (by first | omega | rfl | (simp only [List.length_drop, List.length_take] at *; omega))) ?_))))))))))))))
          rintro _ w39 ⟨rfl, hB40⟩
          replace hb := hb.trans (hB40.mono hs)
          replace hs := Nat.le_trans hs (hB40.size)
          replace o_x4 := obj_below o_x4 hB40
          replace o_x8 := obj_below o_x8 hB40
          replace r_q16 := r_q16.below hB40
          refine put_split (nameF ((Lib.cut (List.drop 1 (trmF ((Lib.cut s ([35] : List UInt8)).1))) ([58] : List UInt8)).1)) ?_ ?_
          · intro h42
            refine L_want (by kernel_rfl) (L_not true (by kernel_rfl) (L_pickF (by kernel_rfl) (L_nil (thenQ_normal (W_false (by kernel_rfl) (W_skip (thenQ_normal (W_region (L_mv (L_mv (L_call 74 [(S ((Lib.cut (List.drop 1 (trmF ((Lib.cut s ([35] : List UInt8)).1))) ([58] : List UInt8)).2.1))] (by kernel_rfl) (by kernel_rfl) (c_lines_fields ((Lib.cut (List.drop 1 (trmF ((Lib.cut s ([35] : List UInt8)).1))) ([58] : List UInt8)).2.1) _ (by first | omega | rfl | (simp only [List.length_drop, List.length_take] at *; omega))) ?_)))))))))))
            rintro q43 w44 ⟨_, rfl, r_q43, hB45⟩
            have ap_r_q43_r_q16 := ap_call r_q43 r_q16; have ap_r_q16_r_q43 := ap_comm ap_r_q43_r_q16
            replace r_q43 := r_q43.base hs
            replace hb := hb.trans (hB45.mono hs)
            replace hs := Nat.le_trans hs (hB45.size)
            replace o_x4 := obj_below o_x4 hB45
            replace o_x8 := obj_below o_x8 hB45
            replace r_q16 := r_q16.below hB45
            refine L_run (.pointer (some ⟨b11, 1, none⟩)) (by kernel_rfl) (by kernel_rfl) (L_store b11 1 (.int .u8 2) [(.int .i64 no), (.int .u8 0), (S ([] : List UInt8)), q16, (S ((cutF s).2))] [(.int .i64 no), (.int .u8 2), (S ([] : List UInt8)), q16, (S ((cutF s).2))] 25 (by kernel_rfl) (by kernel_rfl) rfl (by kernel_rfl) o_x8 (by simp) rfl ?_)
            intro w47 hW48
            replace hb := hb.trans (hW48.below g_x8)
            replace hs := Nat.le_trans hs (Nat.le_of_eq hW48.size.symm)
            have n_o_x4 := obj_wrote o_x4 hW48 ne_x4_x8
            have n_r_q16 := r_q16.wrote hW48 (r_q16.ne o_x8 (by simp))
            have n_r_q43 := r_q43.wrote hW48 (r_q43.ne o_x8 (by simp))
            replace o_x4 := n_o_x4; clear n_o_x4
            replace r_q16 := n_r_q16; clear n_r_q16
            replace r_q43 := n_r_q43; clear n_r_q43
            replace o_x8 := hW48.here
            refine L_run (.pointer (some ⟨b11, 2, none⟩)) (by kernel_rfl) (by kernel_rfl) (L_store b11 2 (S ((Lib.cut (List.drop 1 (trmF ((Lib.cut s ([35] : List UInt8)).1))) ([58] : List UInt8)).1)) [(.int .i64 no), (.int .u8 2), (S ([] : List UInt8)), q16, (S ((cutF s).2))] [(.int .i64 no), (.int .u8 2), (S ((Lib.cut (List.drop 1 (trmF ((Lib.cut s ([35] : List UInt8)).1))) ([58] : List UInt8)).1)), q16, (S ((cutF s).2))] 25 (by kernel_rfl) (by kernel_rfl) rfl (by kernel_rfl) o_x8 (by simp) rfl ?_)
            intro w49 hW50
            replace hb := hb.trans (hW50.below g_x8)
            replace hs := Nat.le_trans hs (Nat.le_of_eq hW50.size.symm)
            have n_o_x4 := obj_wrote o_x4 hW50 ne_x4_x8
            have n_r_q16 := r_q16.wrote hW50 (r_q16.ne o_x8 (by simp))
            have n_r_q43 := r_q43.wrote hW50 (r_q43.ne o_x8 (by simp))
            replace o_x4 := n_o_x4; clear n_o_x4
            replace r_q16 := n_r_q16; clear n_r_q16
            replace r_q43 := n_r_q43; clear n_r_q43
            replace o_x8 := hW50.here
            refine L_run (.pointer (some ⟨b11, 3, none⟩)) (by kernel_rfl) (by kernel_rfl) (L_store b11 3 q43 [(.int .i64 no), (.int .u8 2), (S ((Lib.cut (List.drop 1 (trmF ((Lib.cut s ([35] : List UInt8)).1))) ([58] : List UInt8)).1)), q16, (S ((cutF s).2))] [(.int .i64 no), (.int .u8 2), (S ((Lib.cut (List.drop 1 (trmF ((Lib.cut s ([35] : List UInt8)).1))) ([58] : List UInt8)).1)), q43, (S ((cutF s).2))] 25 (by kernel_rfl) (by kernel_rfl) r_q43.one (by kernel_rfl) o_x8 (by simp) rfl ?_)
            intro w51 hW52
            replace hb := hb.trans (hW52.below g_x8)
            replace hs := Nat.le_trans hs (Nat.le_of_eq hW52.size.symm)
            have n_o_x4 := obj_wrote o_x4 hW52 ne_x4_x8
            have n_r_q16 := r_q16.wrote hW52 (r_q16.ne o_x8 (by simp))
            have n_r_q43 := r_q43.wrote hW52 (r_q43.ne o_x8 (by simp))
            replace o_x4 := n_o_x4; clear n_o_x4
            replace r_q16 := n_r_q16; clear n_r_q16
            replace r_q43 := n_r_q43; clear n_r_q43
            replace o_x8 := hW52.here
            refine L_nil (blkQ_normal (thenQ_normal (W_seq (W_region (L_loadA b11 0 [(.int .i64 no), (.int .u8 2), (S ((Lib.cut (List.drop 1 (trmF ((Lib.cut s ([35] : List UInt8)).1))) ([58] : List UInt8)).1)), q43, (S ((cutF s).2))] (by kernel_rfl) (by kernel_rfl) (by kernel_rfl) (cells_at o_x8 0 (by kernel_rfl)) (L_storeA b1 0 [(.int .i64 no), (.int .u8 2), (S ((Lib.cut (List.drop 1 (trmF ((Lib.cut s ([35] : List UInt8)).1))) ([58] : List UInt8)).1)), q43, (S ((cutF s).2))] [(.int .i64 0), (.int .u8 0), (S ([] : List UInt8)), (.slice none 0 0), (S ([] : List UInt8))] [(.int .i64 no), (.int .u8 2), (S ((Lib.cut (List.drop 1 (trmF ((Lib.cut s ([35] : List UInt8)).1))) ([58] : List UInt8)).1)), q43, (S ((cutF s).2))] 25 (by kernel_rfl) (by kernel_rfl) (allc rfl (allc rfl (allc rfl (allc r_q43.one (allc rfl rfl))))) (by kernel_rfl) o_x4 (by kernel_rfl) rfl ?_))))))
            intro w53 hW54
            replace hb := hb.trans (hW54.below g_x4)
            replace hs := Nat.le_trans hs (Nat.le_of_eq hW54.size.symm)
            have n_o_x8 := obj_wrote o_x8 hW54 ne_x8_x4
            have n_r_q16 := r_q16.wrote hW54 (r_q16.ne o_x4 (by simp))
            have n_r_q43 := r_q43.wrote hW54 (r_q43.ne o_x4 (by simp))
            replace o_x8 := n_o_x8; clear n_o_x8
            replace r_q16 := n_r_q16; clear n_r_q16
            replace r_q43 := n_r_q43; clear n_r_q43
            replace o_x4 := hW54.here
            refine L_as (L_nil (thenQ_normal (W_ret ?_)))
            refine end_ret [.cell 4 25, .tmp 5] [(Value.agg #[(.int .i64 no), (.int .u8 2), (S ((Lib.cut (List.drop 1 (trmF ((Lib.cut s ([35] : List UInt8)).1))) ([58] : List UInt8)).1)), q43, (S ((cutF s).2))]), (.int .i64 0)] rfl rfl ⟨⟨⟨b1, 0, none⟩, by kernel_rfl, load_agg [(.int .i64 no), (.int .u8 2), (S ((Lib.cut (List.drop 1 (trmF ((Lib.cut s ([35] : List UInt8)).1))) ([58] : List UInt8)).1)), q43, (S ((cutF s).2))] (by kernel_rfl) (by kernel_rfl) (cells_obj o_x4)⟩, by kernel_rfl, trivial⟩ ?_
            have hE : ((Value.agg #[(.int .i64 no), (.int .u8 2), (S ((Lib.cut (List.drop 1 (trmF ((Lib.cut s ([35] : List UInt8)).1))) ([58] : List UInt8)).1)), q43, (S ((cutF s).2))]) = (Value.agg #[(.int .i64 ((scanF no s).1.1)), (.int .u8 ((scanF no s).1.2.1)), (S ((scanF no s).1.2.2.1)), q43, (S ((scanF no s).1.2.2.2.2))])) ∧ ((0 : Int) = (scanF no s).2) ∧ (fieldsF ((Lib.cut (List.drop 1 (trmF ((Lib.cut s ([35] : List UInt8)).1))) ([58] : List UInt8)).2.1) = (scanF no s).1.2.2.2.1) := ⟨(by (rw [scan_order (by assumption) (by assumption) (by assumption) (by assumption)]; try rfl; done)), (by (rw [scan_order (by assumption) (by assumption) (by assumption) (by assumption)]; try rfl; done)), (by (rw [scan_order (by assumption) (by assumption) (by assumption) (by assumption)]; try rfl; done))⟩
            exact ⟨q43, tup2 (hE.1) (congrArg (Value.int .i64) hE.2.1), r_q43.cast hE.2.2, hb⟩
          · intro h55
            refine L_want (by kernel_rfl) (L_not false (by kernel_rfl) (L_pickF (by kernel_rfl) (L_nil (thenQ_normal (W_true (by kernel_rfl) (W_seq (W_region (L_run (Value.agg #[(.int .i64 0), (.int .u8 0), (S ([] : List UInt8)), (.slice none 0 0), (S ([] : List UInt8))]) (by kernel_rfl) (by kernel_rfl) (L_storeA b1 0 [(.int .i64 0), (.int .u8 0), (S ([] : List UInt8)), (.slice none 0 0), (S ([] : List UInt8))] [(.int .i64 0), (.int .u8 0), (S ([] : List UInt8)), (.slice none 0 0), (S ([] : List UInt8))] [(.int .i64 0), (.int .u8 0), (S ([] : List UInt8)), (.slice none 0 0), (S ([] : List UInt8))] 25 (by kernel_rfl) (by kernel_rfl) rfl (by kernel_rfl) o_x4 (by kernel_rfl) rfl ?_)))))))))
            intro w56 hW57
            replace hb := hb.trans (hW57.below g_x4)
            replace hs := Nat.le_trans hs (Nat.le_of_eq hW57.size.symm)
            have n_o_x8 := obj_wrote o_x8 hW57 ne_x8_x4
            have n_r_q16 := r_q16.wrote hW57 (r_q16.ne o_x4 (by simp))
            replace o_x8 := n_o_x8; clear n_o_x8
            replace r_q16 := n_r_q16; clear n_r_q16
            replace o_x4 := hW57.here
            refine L_as (L_nil (thenQ_normal (W_ret (thenQ_ret (blkQ_ret (thenQ_ret ?_))))))
            refine end_ret [.cell 4 25, .tmp 5] [(Value.agg #[(.int .i64 0), (.int .u8 0), (S ([] : List UInt8)), (.slice none 0 0), (S ([] : List UInt8))]), (.int .i64 33)] rfl rfl ⟨⟨⟨b1, 0, none⟩, by kernel_rfl, load_agg [(.int .i64 0), (.int .u8 0), (S ([] : List UInt8)), (.slice none 0 0), (S ([] : List UInt8))] (by kernel_rfl) (by kernel_rfl) (cells_obj o_x4)⟩, by kernel_rfl, trivial⟩ ?_
            have hE : ((Value.agg #[(.int .i64 0), (.int .u8 0), (S ([] : List UInt8)), (.slice none 0 0), (S ([] : List UInt8))]) = (Value.agg #[(.int .i64 ((scanF no s).1.1)), (.int .u8 ((scanF no s).1.2.1)), (S ((scanF no s).1.2.2.1)), (.slice none 0 0), (S ((scanF no s).1.2.2.2.2))])) ∧ ((33 : Int) = (scanF no s).2) ∧ (([] : List (List UInt8)) = (scanF no s).1.2.2.2.1) := ⟨(by (rw [scan_unnamed (by assumption) (by assumption) (.inr (by assumption))]; try rfl; done)), (by (rw [scan_unnamed (by assumption) (by assumption) (.inr (by assumption))]; try rfl; done)), (by (rw [scan_unnamed (by assumption) (by assumption) (.inr (by assumption))]; try rfl; done))⟩
            exact ⟨(.slice none 0 0), tup2 (hE.1) (congrArg (Value.int .i64) hE.2.1), (Row.nil _ _ _ _ _).cast hE.2.2, hb⟩
        · intro h58
          refine L_as (L_as (L_as (L_nil (thenQ_normal (W_seq (W_seq (W_region (L_mv (L_not false (by kernel_rfl) (L_mv (L_skip (by kernel_rfl) (L_skip (by kernel_rfl) (L_skip (by kernel_rfl) (L_pickT (by kernel_rfl) (L_nil (thenQ_normal (W_true (by kernel_rfl) (W_seq (W_region (L_run (Value.agg #[(.int .i64 0), (.int .u8 0), (S ([] : List UInt8)), (.slice none 0 0), (S ([] : List UInt8))]) (by kernel_rfl) (by kernel_rfl) (L_storeA b1 0 [(.int .i64 0), (.int .u8 0), (S ([] : List UInt8)), (.slice none 0 0), (S ([] : List UInt8))] [(.int .i64 0), (.int .u8 0), (S ([] : List UInt8)), (.slice none 0 0), (S ([] : List UInt8))] [(.int .i64 0), (.int .u8 0), (S ([] : List UInt8)), (.slice none 0 0), (S ([] : List UInt8))] 25 (by kernel_rfl) (by kernel_rfl) rfl (by kernel_rfl) o_x4 (by kernel_rfl) rfl ?_)))))))))))))))))))))
          intro w59 hW60
          replace hb := hb.trans (hW60.below g_x4)
          replace hs := Nat.le_trans hs (Nat.le_of_eq hW60.size.symm)
          have n_o_x8 := obj_wrote o_x8 hW60 ne_x8_x4
          have n_r_q16 := r_q16.wrote hW60 (r_q16.ne o_x4 (by simp))
          replace o_x8 := n_o_x8; clear n_o_x8
          replace r_q16 := n_r_q16; clear n_r_q16
          replace o_x4 := hW60.here
          refine L_as (L_nil (thenQ_normal (W_ret (thenQ_ret (blkQ_ret (thenQ_ret ?_))))))
          refine end_ret [.cell 4 25, .tmp 5] [(Value.agg #[(.int .i64 0), (.int .u8 0), (S ([] : List UInt8)), (.slice none 0 0), (S ([] : List UInt8))]), (.int .i64 33)] rfl rfl ⟨⟨⟨b1, 0, none⟩, by kernel_rfl, load_agg [(.int .i64 0), (.int .u8 0), (S ([] : List UInt8)), (.slice none 0 0), (S ([] : List UInt8))] (by kernel_rfl) (by kernel_rfl) (cells_obj o_x4)⟩, by kernel_rfl, trivial⟩ ?_
          have hE : ((Value.agg #[(.int .i64 0), (.int .u8 0), (S ([] : List UInt8)), (.slice none 0 0), (S ([] : List UInt8))]) = (Value.agg #[(.int .i64 ((scanF no s).1.1)), (.int .u8 ((scanF no s).1.2.1)), (S ((scanF no s).1.2.2.1)), (.slice none 0 0), (S ((scanF no s).1.2.2.2.2))])) ∧ ((33 : Int) = (scanF no s).2) ∧ (([] : List (List UInt8)) = (scanF no s).1.2.2.2.1) := ⟨(by (rw [scan_unnamed (by assumption) (by assumption) (.inl (by assumption))]; try rfl; done)), (by (rw [scan_unnamed (by assumption) (by assumption) (.inl (by assumption))]; try rfl; done)), (by (rw [scan_unnamed (by assumption) (by assumption) (.inl (by assumption))]; try rfl; done))⟩
          exact ⟨(.slice none 0 0), tup2 (hE.1) (congrArg (Value.int .i64) hE.2.1), (Row.nil _ _ _ _ _).cast hE.2.2, hb⟩
      · intro h61
        refine L_as (L_nil (thenQ_normal (W_false (by kernel_rfl) (W_seq (W_region (L_mv (L_sne (trmF ((Lib.cut s ([35] : List UInt8)).1)) ([] : List UInt8) rfl (by kernel_rfl) (by kernel_rfl) ?_ ?_)))))))
        · intro h62
          refine L_as (L_nil (thenQ_normal (W_true (by kernel_rfl) (W_region (L_run (.pointer (some ⟨b11, 1, none⟩)) (by kernel_rfl) (by kernel_rfl) (L_store b11 1 (.int .u8 1) [(.int .i64 no), (.int .u8 0), (S ([] : List UInt8)), q16, (S ((cutF s).2))] [(.int .i64 no), (.int .u8 1), (S ([] : List UInt8)), q16, (S ((cutF s).2))] 25 (by kernel_rfl) (by kernel_rfl) rfl (by kernel_rfl) o_x8 (by simp) rfl ?_))))))
          intro w63 hW64
          replace hb := hb.trans (hW64.below g_x8)
          replace hs := Nat.le_trans hs (Nat.le_of_eq hW64.size.symm)
          have n_o_x4 := obj_wrote o_x4 hW64 ne_x4_x8
          have n_r_q16 := r_q16.wrote hW64 (r_q16.ne o_x8 (by simp))
          replace o_x4 := n_o_x4; clear n_o_x4
          replace r_q16 := n_r_q16; clear n_r_q16
          replace o_x8 := hW64.here
          refine L_nil (blkQ_normal (thenQ_normal (W_seq (W_region (L_loadA b11 0 [(.int .i64 no), (.int .u8 1), (S ([] : List UInt8)), q16, (S ((cutF s).2))] (by kernel_rfl) (by kernel_rfl) (by kernel_rfl) (cells_at o_x8 0 (by kernel_rfl)) (L_storeA b1 0 [(.int .i64 no), (.int .u8 1), (S ([] : List UInt8)), q16, (S ((cutF s).2))] [(.int .i64 0), (.int .u8 0), (S ([] : List UInt8)), (.slice none 0 0), (S ([] : List UInt8))] [(.int .i64 no), (.int .u8 1), (S ([] : List UInt8)), q16, (S ((cutF s).2))] 25 (by kernel_rfl) (by kernel_rfl) (allc rfl (allc rfl (allc rfl (allc r_q16.one (allc rfl rfl))))) (by kernel_rfl) o_x4 (by kernel_rfl) rfl ?_))))))
          intro w65 hW66
          replace hb := hb.trans (hW66.below g_x4)
          replace hs := Nat.le_trans hs (Nat.le_of_eq hW66.size.symm)
          have n_o_x8 := obj_wrote o_x8 hW66 ne_x8_x4
          have n_r_q16 := r_q16.wrote hW66 (r_q16.ne o_x4 (by simp))
          replace o_x8 := n_o_x8; clear n_o_x8
          replace r_q16 := n_r_q16; clear n_r_q16
          replace o_x4 := hW66.here
          refine L_as (L_nil (thenQ_normal (W_ret ?_)))
          refine end_ret [.cell 4 25, .tmp 5] [(Value.agg #[(.int .i64 no), (.int .u8 1), (S ([] : List UInt8)), q16, (S ((cutF s).2))]), (.int .i64 0)] rfl rfl ⟨⟨⟨b1, 0, none⟩, by kernel_rfl, load_agg [(.int .i64 no), (.int .u8 1), (S ([] : List UInt8)), q16, (S ((cutF s).2))] (by kernel_rfl) (by kernel_rfl) (cells_obj o_x4)⟩, by kernel_rfl, trivial⟩ ?_
          have hE : ((Value.agg #[(.int .i64 no), (.int .u8 1), (S ([] : List UInt8)), q16, (S ((cutF s).2))]) = (Value.agg #[(.int .i64 ((scanF no s).1.1)), (.int .u8 ((scanF no s).1.2.1)), (S ((scanF no s).1.2.2.1)), q16, (S ((scanF no s).1.2.2.2.2))])) ∧ ((0 : Int) = (scanF no s).2) ∧ ((cutF s).1 = (scanF no s).1.2.2.2.1) := ⟨(by (rw [scan_data (by assumption) (by assumption) (by assumption)]; try rfl; done)), (by (rw [scan_data (by assumption) (by assumption) (by assumption)]; try rfl; done)), (by (rw [scan_data (by assumption) (by assumption) (by assumption)]; try rfl; done))⟩
          exact ⟨q16, tup2 (hE.1) (congrArg (Value.int .i64) hE.2.1), r_q16.cast hE.2.2, hb⟩
        · intro h67
          refine L_as (L_nil (thenQ_normal (W_false (by kernel_rfl) (W_seq (W_region (L_run (.pointer (some ⟨b11, 4, none⟩)) (by kernel_rfl) (by kernel_rfl) (L_load b11 4 (S ((cutF s).2)) (by kernel_rfl) (by kernel_rfl) (cell_obj o_x8 rfl) (L_call 29 [(S ((cutF s).2)), (S ([64, 109, 105, 115, 115, 105, 110, 103, 58] : List UInt8))] (by kernel_rfl) (by kernel_rfl) (c_strings_HasPrefix ((cutF s).2) ([64, 109, 105, 115, 115, 105, 110, 103, 58] : List UInt8) _ ) ?_))))))))
          rintro _ w68 ⟨rfl, hB69⟩
          replace hb := hb.trans (hB69.mono hs)
          replace hs := Nat.le_trans hs (hB69.size)
          replace o_x4 := obj_below o_x4 hB69
          replace o_x8 := obj_below o_x8 hB69
          replace r_q16 := r_q16.below hB69
          refine put_split (hpB ((cutF s).2) ([64, 109, 105, 115, 115, 105, 110, 103, 58] : List UInt8)) ?_ ?_
          · intro h71
            have := hp_len h71; simp only [List.length_cons, List.length_nil] at this
            refine L_as (L_nil (thenQ_normal (W_true (by kernel_rfl) (W_seq (W_region (L_run (.pointer (some ⟨b11, 1, none⟩)) (by kernel_rfl) (by kernel_rfl) (L_store b11 1 (.int .u8 3) [(.int .i64 no), (.int .u8 0), (S ([] : List UInt8)), q16, (S ((cutF s).2))] [(.int .i64 no), (.int .u8 3), (S ([] : List UInt8)), q16, (S ((cutF s).2))] 25 (by kernel_rfl) (by kernel_rfl) rfl (by kernel_rfl) o_x8 (by simp) rfl ?_)))))))
            intro w72 hW73
            replace hb := hb.trans (hW73.below g_x8)
            replace hs := Nat.le_trans hs (Nat.le_of_eq hW73.size.symm)
            have n_o_x4 := obj_wrote o_x4 hW73 ne_x4_x8
            have n_r_q16 := r_q16.wrote hW73 (r_q16.ne o_x8 (by simp))
            replace o_x4 := n_o_x4; clear n_o_x4
            replace r_q16 := n_r_q16; clear n_r_q16
            replace o_x8 := hW73.here
            refine L_nil (thenQ_normal (W_region (L_run (.pointer (some ⟨b11, 4, none⟩)) (by kernel_rfl) (by kernel_rfl) (L_load b11 4 (S ((cutF s).2)) (by kernel_rfl) (by kernel_rfl) (cell_obj o_x8 rfl) (L_ssfrom ((cutF s).2) 9 Tryd.underlying9 (by kernel_rfl) ⟨.i64, by kernel_rfl⟩ (by first | omega | rfl | (simp only [List.length_drop, List.length_take] at *; omega)) (L_call 70 [(S (List.drop 9 ((cutF s).2)))] (by kernel_rfl) (by kernel_rfl) (c_lines_Cut (List.drop 9 ((cutF s).2)) _ (by first | omega | rfl | (simp only [List.length_drop, List.length_take] at *; omega))) ?_))))))
            rintro _ w75 ⟨q74, rfl, r_q74, hB76⟩
            have ap_r_q74_r_q16 := ap_call r_q74 r_q16; have ap_r_q16_r_q74 := ap_comm ap_r_q74_r_q16
            replace r_q74 := r_q74.base hs
            replace hb := hb.trans (hB76.mono hs)
            replace hs := Nat.le_trans hs (hB76.size)
            replace o_x4 := obj_below o_x4 hB76
            replace o_x8 := obj_below o_x8 hB76
            replace r_q16 := r_q16.below hB76
            refine L_mv (L_run q74 (by kernel_rfl) (by kernel_rfl) (L_run (S ((cutF (List.drop 9 ((cutF s).2))).2)) (by kernel_rfl) (by kernel_rfl) (L_run (.pointer (some ⟨b11, 3, none⟩)) (by kernel_rfl) (by kernel_rfl) (L_store b11 3 q74 [(.int .i64 no), (.int .u8 3), (S ([] : List UInt8)), q16, (S ((cutF s).2))] [(.int .i64 no), (.int .u8 3), (S ([] : List UInt8)), q74, (S ((cutF s).2))] 25 (by kernel_rfl) (by kernel_rfl) r_q74.one (by kernel_rfl) o_x8 (by simp) rfl ?_))))
            intro w78 hW79
            replace hb := hb.trans (hW79.below g_x8)
            replace hs := Nat.le_trans hs (Nat.le_of_eq hW79.size.symm)
            have n_o_x4 := obj_wrote o_x4 hW79 ne_x4_x8
            have n_r_q16 := r_q16.wrote hW79 (r_q16.ne o_x8 (by simp))
            have n_r_q74 := r_q74.wrote hW79 (r_q74.ne o_x8 (by simp))
            replace o_x4 := n_o_x4; clear n_o_x4
            replace r_q16 := n_r_q16; clear n_r_q16
            replace r_q74 := n_r_q74; clear n_r_q74
            replace o_x8 := hW79.here
            refine L_run (.pointer (some ⟨b11, 4, none⟩)) (by kernel_rfl) (by kernel_rfl) (L_store b11 4 (S ((cutF (List.drop 9 ((cutF s).2))).2)) [(.int .i64 no), (.int .u8 3), (S ([] : List UInt8)), q74, (S ((cutF s).2))] [(.int .i64 no), (.int .u8 3), (S ([] : List UInt8)), q74, (S ((cutF (List.drop 9 ((cutF s).2))).2))] 25 (by kernel_rfl) (by kernel_rfl) rfl (by kernel_rfl) o_x8 (by simp) rfl ?_)
            intro w80 hW81
            replace hb := hb.trans (hW81.below g_x8)
            replace hs := Nat.le_trans hs (Nat.le_of_eq hW81.size.symm)
            have n_o_x4 := obj_wrote o_x4 hW81 ne_x4_x8
            have n_r_q16 := r_q16.wrote hW81 (r_q16.ne o_x8 (by simp))
            have n_r_q74 := r_q74.wrote hW81 (r_q74.ne o_x8 (by simp))
            replace o_x4 := n_o_x4; clear n_o_x4
            replace r_q16 := n_r_q16; clear n_r_q16
            replace r_q74 := n_r_q74; clear n_r_q74
            replace o_x8 := hW81.here
            refine L_nil (blkQ_normal (thenQ_normal (W_seq (W_region (L_loadA b11 0 [(.int .i64 no), (.int .u8 3), (S ([] : List UInt8)), q74, (S ((cutF (List.drop 9 ((cutF s).2))).2))] (by kernel_rfl) (by kernel_rfl) (by kernel_rfl) (cells_at o_x8 0 (by kernel_rfl)) (L_storeA b1 0 [(.int .i64 no), (.int .u8 3), (S ([] : List UInt8)), q74, (S ((cutF (List.drop 9 ((cutF s).2))).2))] [(.int .i64 0), (.int .u8 0), (S ([] : List UInt8)), (.slice none 0 0), (S ([] : List UInt8))] [(.int .i64 no), (.int .u8 3), (S ([] : List UInt8)), q74, (S ((cutF (List.drop 9 ((cutF s).2))).2))] 25 (by kernel_rfl) (by kernel_rfl) (allc rfl (allc rfl (allc rfl (allc r_q74.one (allc rfl rfl))))) (by kernel_rfl) o_x4 (by kernel_rfl) rfl ?_))))))
            intro w82 hW83
            replace hb := hb.trans (hW83.below g_x4)
            replace hs := Nat.le_trans hs (Nat.le_of_eq hW83.size.symm)
            have n_o_x8 := obj_wrote o_x8 hW83 ne_x8_x4
            have n_r_q16 := r_q16.wrote hW83 (r_q16.ne o_x4 (by simp))
            have n_r_q74 := r_q74.wrote hW83 (r_q74.ne o_x4 (by simp))
            replace o_x8 := n_o_x8; clear n_o_x8
            replace r_q16 := n_r_q16; clear n_r_q16
            replace r_q74 := n_r_q74; clear n_r_q74
            replace o_x4 := hW83.here
            refine L_as (L_nil (thenQ_normal (W_ret ?_)))
            refine end_ret [.cell 4 25, .tmp 5] [(Value.agg #[(.int .i64 no), (.int .u8 3), (S ([] : List UInt8)), q74, (S ((cutF (List.drop 9 ((cutF s).2))).2))]), (.int .i64 0)] rfl rfl ⟨⟨⟨b1, 0, none⟩, by kernel_rfl, load_agg [(.int .i64 no), (.int .u8 3), (S ([] : List UInt8)), q74, (S ((cutF (List.drop 9 ((cutF s).2))).2))] (by kernel_rfl) (by kernel_rfl) (cells_obj o_x4)⟩, by kernel_rfl, trivial⟩ ?_
            have hE : ((Value.agg #[(.int .i64 no), (.int .u8 3), (S ([] : List UInt8)), q74, (S ((cutF (List.drop 9 ((cutF s).2))).2))]) = (Value.agg #[(.int .i64 ((scanF no s).1.1)), (.int .u8 ((scanF no s).1.2.1)), (S ((scanF no s).1.2.2.1)), q74, (S ((scanF no s).1.2.2.2.2))])) ∧ ((0 : Int) = (scanF no s).2) ∧ ((cutF (List.drop 9 ((cutF s).2))).1 = (scanF no s).1.2.2.2.1) := ⟨(by (rw [scan_miss (by assumption) (by assumption) (by assumption)]; try rfl; done)), (by (rw [scan_miss (by assumption) (by assumption) (by assumption)]; try rfl; done)), (by (rw [scan_miss (by assumption) (by assumption) (by assumption)]; try rfl; done))⟩
            exact ⟨q74, tup2 (hE.1) (congrArg (Value.int .i64) hE.2.1), r_q74.cast hE.2.2, hb⟩
          · intro h84
            refine L_as (L_nil (thenQ_normal (W_false (by kernel_rfl) (W_skip (blkQ_normal (thenQ_normal (W_seq (W_region (L_loadA b11 0 [(.int .i64 no), (.int .u8 0), (S ([] : List UInt8)), q16, (S ((cutF s).2))] (by kernel_rfl) (by kernel_rfl) (by kernel_rfl) (cells_at o_x8 0 (by kernel_rfl)) (L_storeA b1 0 [(.int .i64 no), (.int .u8 0), (S ([] : List UInt8)), q16, (S ((cutF s).2))] [(.int .i64 0), (.int .u8 0), (S ([] : List UInt8)), (.slice none 0 0), (S ([] : List UInt8))] [(.int .i64 no), (.int .u8 0), (S ([] : List UInt8)), q16, (S ((cutF s).2))] 25 (by kernel_rfl) (by kernel_rfl) (allc rfl (allc rfl (allc rfl (allc r_q16.one (allc rfl rfl))))) (by kernel_rfl) o_x4 (by kernel_rfl) rfl ?_))))))))))
            intro w85 hW86
            replace hb := hb.trans (hW86.below g_x4)
            replace hs := Nat.le_trans hs (Nat.le_of_eq hW86.size.symm)
            have n_o_x8 := obj_wrote o_x8 hW86 ne_x8_x4
            have n_r_q16 := r_q16.wrote hW86 (r_q16.ne o_x4 (by simp))
            replace o_x8 := n_o_x8; clear n_o_x8
            replace r_q16 := n_r_q16; clear n_r_q16
            replace o_x4 := hW86.here
            refine L_as (L_nil (thenQ_normal (W_ret ?_)))
            refine end_ret [.cell 4 25, .tmp 5] [(Value.agg #[(.int .i64 no), (.int .u8 0), (S ([] : List UInt8)), q16, (S ((cutF s).2))]), (.int .i64 0)] rfl rfl ⟨⟨⟨b1, 0, none⟩, by kernel_rfl, load_agg [(.int .i64 no), (.int .u8 0), (S ([] : List UInt8)), q16, (S ((cutF s).2))] (by kernel_rfl) (by kernel_rfl) (cells_obj o_x4)⟩, by kernel_rfl, trivial⟩ ?_
            have hE : ((Value.agg #[(.int .i64 no), (.int .u8 0), (S ([] : List UInt8)), q16, (S ((cutF s).2))]) = (Value.agg #[(.int .i64 ((scanF no s).1.1)), (.int .u8 ((scanF no s).1.2.1)), (S ((scanF no s).1.2.2.1)), q16, (S ((scanF no s).1.2.2.2.2))])) ∧ ((0 : Int) = (scanF no s).2) ∧ ((cutF s).1 = (scanF no s).1.2.2.2.1) := ⟨(by (rw [scan_blank (by assumption) (by assumption) (by assumption)]; try rfl; done)), (by (rw [scan_blank (by assumption) (by assumption) (by assumption)]; try rfl; done)), (by (rw [scan_blank (by assumption) (by assumption) (by assumption)]; try rfl; done))⟩
            exact ⟨q16, tup2 (hE.1) (congrArg (Value.int .i64) hE.2.1), r_q16.cast hE.2.2, hb⟩
    · intro h87
      refine L_as (L_as (L_as (L_nil (thenQ_normal (W_seq (W_region (L_mv (L_call 72 [(S ((Lib.cut s ([35] : List UInt8)).1))] (by kernel_rfl) (by kernel_rfl) (c_lines_trim ((Lib.cut s ([35] : List UInt8)).1) _ (by first | omega | rfl | (simp only [List.length_drop, List.length_take] at *; omega))) ?_))))))))
      rintro _ w88 ⟨rfl, hB89⟩
      replace hb := hb.trans (hB89.mono hs)
      replace hs := Nat.le_trans hs (hB89.size)
      replace o_x4 := obj_below o_x4 hB89
      replace o_x8 := obj_below o_x8 hB89
      replace r_q16 := r_q16.below hB89
      have := trm_len ((Lib.cut s ([35] : List UInt8)).1)
      refine L_as (L_nil (thenQ_normal (W_seq (W_block (W_seq (W_region (L_mv (L_call 29 [(S (trmF ((Lib.cut s ([35] : List UInt8)).1))), (S ([64] : List UInt8))] (by kernel_rfl) (by kernel_rfl) (c_strings_HasPrefix (trmF ((Lib.cut s ([35] : List UInt8)).1)) ([64] : List UInt8) _ ) ?_))))))))
      rintro _ w91 ⟨rfl, hB92⟩
      replace hb := hb.trans (hB92.mono hs)
      replace hs := Nat.le_trans hs (hB92.size)
      replace o_x4 := obj_below o_x4 hB92
      replace o_x8 := obj_below o_x8 hB92
      replace r_q16 := r_q16.below hB92
      refine put_split (hpB (trmF ((Lib.cut s ([35] : List UInt8)).1)) ([64] : List UInt8)) ?_ ?_
      · intro h94
        have := hp_len h94; simp only [List.length_cons, List.length_nil] at this
        refine L_as (L_nil (thenQ_normal (W_true (by kernel_rfl) (W_seq (W_region (L_mv (L_ssfrom (trmF ((Lib.cut s ([35] : List UInt8)).1)) 1 Tryd.underlying9 (by kernel_rfl) ⟨.i64, by kernel_rfl⟩ (by first | omega | rfl | (simp only [List.length_drop, List.length_take] at *; omega)) (L_call 71 [(S (List.drop 1 (trmF ((Lib.cut s ([35] : List UInt8)).1)))), (S ([58] : List UInt8))] (by kernel_rfl) (by kernel_rfl) (c_strings_Cut (List.drop 1 (trmF ((Lib.cut s ([35] : List UInt8)).1))) ([58] : List UInt8) _ (by first | omega | rfl | (simp only [List.length_drop, List.length_take] at *; omega)) (by first | omega | rfl | (simp only [List.length_drop, List.length_take] at *; omega))) ?_))))))))
        rintro _ w95 ⟨rfl, hB96⟩
        replace hb := hb.trans (hB96.mono hs)
        replace hs := Nat.le_trans hs (hB96.size)
        replace o_x4 := obj_below o_x4 hB96
        replace o_x8 := obj_below o_x8 hB96
        replace r_q16 := r_q16.below hB96
        have := cutl_len (List.drop 1 (trmF ((Lib.cut s ([35] : List UInt8)).1))) ([58] : List UInt8)
        refine L_mv (L_run (S ((Lib.cut (List.drop 1 (trmF ((Lib.cut s ([35] : List UInt8)).1))) ([58] : List UInt8)).1)) (by kernel_rfl) (by kernel_rfl) (L_run (S ((Lib.cut (List.drop 1 (trmF ((Lib.cut s ([35] : List UInt8)).1))) ([58] : List UInt8)).2.1)) (by kernel_rfl) (by kernel_rfl) (L_run (.bool ((Lib.cut (List.drop 1 (trmF ((Lib.cut s ([35] : List UInt8)).1))) ([58] : List UInt8)).2.2)) (by kernel_rfl) (by kernel_rfl) (put_split ((Lib.cut (List.drop 1 (trmF ((Lib.cut s ([35] : List UInt8)).1))) ([58] : List UInt8)).2.2) ?_ ?_))))
        · intro h98
          refine L_as (L_as (L_as (L_nil (thenQ_normal (W_seq (W_seq (W_region (L_mv (L_not true (by kernel_rfl) (L_mv (L_want (by kernel_rfl) (L_mv (L_want (by kernel_rfl) (L_call 73 [(S ((Lib.cut (List.drop 1 (trmF ((Lib.cut s ([35] : List UInt8)).1))) ([58] : List UInt8)).1))] (by kernel_rfl) (by kernel_rfl) (c_lines_named ((Lib.cut (List.drop 1 (trmF ((Lib.cut s ([35] : List UInt8)).1))) ([58] : List UInt8)).1) _ (by first | omega | rfl | (simp only [List.length_drop, List.length_take] at *; omega))) ?_))))))))))))))
          rintro _ w99 ⟨rfl, hB100⟩
          replace hb := hb.trans (hB100.mono hs)
          replace hs := Nat.le_trans hs (hB100.size)
          replace o_x4 := obj_below o_x4 hB100
          replace o_x8 := obj_below o_x8 hB100
          replace r_q16 := r_q16.below hB100
          refine put_split (nameF ((Lib.cut (List.drop 1 (trmF ((Lib.cut s ([35] : List UInt8)).1))) ([58] : List UInt8)).1)) ?_ ?_
          · intro h102
            refine L_want (by kernel_rfl) (L_not true (by kernel_rfl) (L_pickF (by kernel_rfl) (L_nil (thenQ_normal (W_false (by kernel_rfl) (W_skip (thenQ_normal (W_region (L_mv (L_mv (L_call 74 [(S ((Lib.cut (List.drop 1 (trmF ((Lib.cut s ([35] : List UInt8)).1))) ([58] : List UInt8)).2.1))] (by kernel_rfl) (by kernel_rfl) (c_lines_fields ((Lib.cut (List.drop 1 (trmF ((Lib.cut s ([35] : List UInt8)).1))) ([58] : List UInt8)).2.1) _ (by first | omega | rfl | (simp only [List.length_drop, List.length_take] at *; omega))) ?_)))))))))))
            rintro q103 w104 ⟨_, rfl, r_q103, hB105⟩
            have ap_r_q103_r_q16 := ap_call r_q103 r_q16; have ap_r_q16_r_q103 := ap_comm ap_r_q103_r_q16
            replace r_q103 := r_q103.base hs
            replace hb := hb.trans (hB105.mono hs)
            replace hs := Nat.le_trans hs (hB105.size)
            replace o_x4 := obj_below o_x4 hB105
            replace o_x8 := obj_below o_x8 hB105
            replace r_q16 := r_q16.below hB105
            refine L_run (.pointer (some ⟨b11, 1, none⟩)) (by kernel_rfl) (by kernel_rfl) (L_store b11 1 (.int .u8 2) [(.int .i64 no), (.int .u8 0), (S ([] : List UInt8)), q16, (S ((cutF s).2))] [(.int .i64 no), (.int .u8 2), (S ([] : List UInt8)), q16, (S ((cutF s).2))] 25 (by kernel_rfl) (by kernel_rfl) rfl (by kernel_rfl) o_x8 (by simp) rfl ?_)
            intro w107 hW108
            replace hb := hb.trans (hW108.below g_x8)
            replace hs := Nat.le_trans hs (Nat.le_of_eq hW108.size.symm)
            have n_o_x4 := obj_wrote o_x4 hW108 ne_x4_x8
            have n_r_q16 := r_q16.wrote hW108 (r_q16.ne o_x8 (by simp))
            have n_r_q103 := r_q103.wrote hW108 (r_q103.ne o_x8 (by simp))
            replace o_x4 := n_o_x4; clear n_o_x4
            replace r_q16 := n_r_q16; clear n_r_q16
            replace r_q103 := n_r_q103; clear n_r_q103
            replace o_x8 := hW108.here
            refine L_run (.pointer (some ⟨b11, 2, none⟩)) (by kernel_rfl) (by kernel_rfl) (L_store b11 2 (S ((Lib.cut (List.drop 1 (trmF ((Lib.cut s ([35] : List UInt8)).1))) ([58] : List UInt8)).1)) [(.int .i64 no), (.int .u8 2), (S ([] : List UInt8)), q16, (S ((cutF s).2))] [(.int .i64 no), (.int .u8 2), (S ((Lib.cut (List.drop 1 (trmF ((Lib.cut s ([35] : List UInt8)).1))) ([58] : List UInt8)).1)), q16, (S ((cutF s).2))] 25 (by kernel_rfl) (by kernel_rfl) rfl (by kernel_rfl) o_x8 (by simp) rfl ?_)
            intro w109 hW110
            replace hb := hb.trans (hW110.below g_x8)
            replace hs := Nat.le_trans hs (Nat.le_of_eq hW110.size.symm)
            have n_o_x4 := obj_wrote o_x4 hW110 ne_x4_x8
            have n_r_q16 := r_q16.wrote hW110 (r_q16.ne o_x8 (by simp))
            have n_r_q103 := r_q103.wrote hW110 (r_q103.ne o_x8 (by simp))
            replace o_x4 := n_o_x4; clear n_o_x4
            replace r_q16 := n_r_q16; clear n_r_q16
            replace r_q103 := n_r_q103; clear n_r_q103
            replace o_x8 := hW110.here
            refine L_run (.pointer (some ⟨b11, 3, none⟩)) (by kernel_rfl) (by kernel_rfl) (L_store b11 3 q103 [(.int .i64 no), (.int .u8 2), (S ((Lib.cut (List.drop 1 (trmF ((Lib.cut s ([35] : List UInt8)).1))) ([58] : List UInt8)).1)), q16, (S ((cutF s).2))] [(.int .i64 no), (.int .u8 2), (S ((Lib.cut (List.drop 1 (trmF ((Lib.cut s ([35] : List UInt8)).1))) ([58] : List UInt8)).1)), q103, (S ((cutF s).2))] 25 (by kernel_rfl) (by kernel_rfl) r_q103.one (by kernel_rfl) o_x8 (by simp) rfl ?_)
            intro w111 hW112
            replace hb := hb.trans (hW112.below g_x8)
            replace hs := Nat.le_trans hs (Nat.le_of_eq hW112.size.symm)
            have n_o_x4 := obj_wrote o_x4 hW112 ne_x4_x8
            have n_r_q16 := r_q16.wrote hW112 (r_q16.ne o_x8 (by simp))
            have n_r_q103 := r_q103.wrote hW112 (r_q103.ne o_x8 (by simp))
            replace o_x4 := n_o_x4; clear n_o_x4
            replace r_q16 := n_r_q16; clear n_r_q16
            replace r_q103 := n_r_q103; clear n_r_q103
            replace o_x8 := hW112.here
            refine L_nil (blkQ_normal (thenQ_normal (W_seq (W_region (L_loadA b11 0 [(.int .i64 no), (.int .u8 2), (S ((Lib.cut (List.drop 1 (trmF ((Lib.cut s ([35] : List UInt8)).1))) ([58] : List UInt8)).1)), q103, (S ((cutF s).2))] (by kernel_rfl) (by kernel_rfl) (by kernel_rfl) (cells_at o_x8 0 (by kernel_rfl)) (L_storeA b1 0 [(.int .i64 no), (.int .u8 2), (S ((Lib.cut (List.drop 1 (trmF ((Lib.cut s ([35] : List UInt8)).1))) ([58] : List UInt8)).1)), q103, (S ((cutF s).2))] [(.int .i64 0), (.int .u8 0), (S ([] : List UInt8)), (.slice none 0 0), (S ([] : List UInt8))] [(.int .i64 no), (.int .u8 2), (S ((Lib.cut (List.drop 1 (trmF ((Lib.cut s ([35] : List UInt8)).1))) ([58] : List UInt8)).1)), q103, (S ((cutF s).2))] 25 (by kernel_rfl) (by kernel_rfl) (allc rfl (allc rfl (allc rfl (allc r_q103.one (allc rfl rfl))))) (by kernel_rfl) o_x4 (by kernel_rfl) rfl ?_))))))
            intro w113 hW114
            replace hb := hb.trans (hW114.below g_x4)
            replace hs := Nat.le_trans hs (Nat.le_of_eq hW114.size.symm)
            have n_o_x8 := obj_wrote o_x8 hW114 ne_x8_x4
            have n_r_q16 := r_q16.wrote hW114 (r_q16.ne o_x4 (by simp))
            have n_r_q103 := r_q103.wrote hW114 (r_q103.ne o_x4 (by simp))
            replace o_x8 := n_o_x8; clear n_o_x8
            replace r_q16 := n_r_q16; clear n_r_q16
            replace r_q103 := n_r_q103; clear n_r_q103
            replace o_x4 := hW114.here
            refine L_as (L_nil (thenQ_normal (W_ret ?_)))
            refine end_ret [.cell 4 25, .tmp 5] [(Value.agg #[(.int .i64 no), (.int .u8 2), (S ((Lib.cut (List.drop 1 (trmF ((Lib.cut s ([35] : List UInt8)).1))) ([58] : List UInt8)).1)), q103, (S ((cutF s).2))]), (.int .i64 0)] rfl rfl ⟨⟨⟨b1, 0, none⟩, by kernel_rfl, load_agg [(.int .i64 no), (.int .u8 2), (S ((Lib.cut (List.drop 1 (trmF ((Lib.cut s ([35] : List UInt8)).1))) ([58] : List UInt8)).1)), q103, (S ((cutF s).2))] (by kernel_rfl) (by kernel_rfl) (cells_obj o_x4)⟩, by kernel_rfl, trivial⟩ ?_
            have hE : ((Value.agg #[(.int .i64 no), (.int .u8 2), (S ((Lib.cut (List.drop 1 (trmF ((Lib.cut s ([35] : List UInt8)).1))) ([58] : List UInt8)).1)), q103, (S ((cutF s).2))]) = (Value.agg #[(.int .i64 ((scanF no s).1.1)), (.int .u8 ((scanF no s).1.2.1)), (S ((scanF no s).1.2.2.1)), q103, (S ((scanF no s).1.2.2.2.2))])) ∧ ((0 : Int) = (scanF no s).2) ∧ (fieldsF ((Lib.cut (List.drop 1 (trmF ((Lib.cut s ([35] : List UInt8)).1))) ([58] : List UInt8)).2.1) = (scanF no s).1.2.2.2.1) := ⟨(by (rw [scan_order (by assumption) (by assumption) (by assumption) (by assumption)]; try rfl; done)), (by (rw [scan_order (by assumption) (by assumption) (by assumption) (by assumption)]; try rfl; done)), (by (rw [scan_order (by assumption) (by assumption) (by assumption) (by assumption)]; try rfl; done))⟩
            exact ⟨q103, tup2 (hE.1) (congrArg (Value.int .i64) hE.2.1), r_q103.cast hE.2.2, hb⟩
          · intro h115
            refine L_want (by kernel_rfl) (L_not false (by kernel_rfl) (L_pickF (by kernel_rfl) (L_nil (thenQ_normal (W_true (by kernel_rfl) (W_seq (W_region (L_run (Value.agg #[(.int .i64 0), (.int .u8 0), (S ([] : List UInt8)), (.slice none 0 0), (S ([] : List UInt8))]) (by kernel_rfl) (by kernel_rfl) (L_storeA b1 0 [(.int .i64 0), (.int .u8 0), (S ([] : List UInt8)), (.slice none 0 0), (S ([] : List UInt8))] [(.int .i64 0), (.int .u8 0), (S ([] : List UInt8)), (.slice none 0 0), (S ([] : List UInt8))] [(.int .i64 0), (.int .u8 0), (S ([] : List UInt8)), (.slice none 0 0), (S ([] : List UInt8))] 25 (by kernel_rfl) (by kernel_rfl) rfl (by kernel_rfl) o_x4 (by kernel_rfl) rfl ?_)))))))))
            intro w116 hW117
            replace hb := hb.trans (hW117.below g_x4)
            replace hs := Nat.le_trans hs (Nat.le_of_eq hW117.size.symm)
            have n_o_x8 := obj_wrote o_x8 hW117 ne_x8_x4
            have n_r_q16 := r_q16.wrote hW117 (r_q16.ne o_x4 (by simp))
            replace o_x8 := n_o_x8; clear n_o_x8
            replace r_q16 := n_r_q16; clear n_r_q16
            replace o_x4 := hW117.here
            refine L_as (L_nil (thenQ_normal (W_ret (thenQ_ret (blkQ_ret (thenQ_ret ?_))))))
            refine end_ret [.cell 4 25, .tmp 5] [(Value.agg #[(.int .i64 0), (.int .u8 0), (S ([] : List UInt8)), (.slice none 0 0), (S ([] : List UInt8))]), (.int .i64 33)] rfl rfl ⟨⟨⟨b1, 0, none⟩, by kernel_rfl, load_agg [(.int .i64 0), (.int .u8 0), (S ([] : List UInt8)), (.slice none 0 0), (S ([] : List UInt8))] (by kernel_rfl) (by kernel_rfl) (cells_obj o_x4)⟩, by kernel_rfl, trivial⟩ ?_
            have hE : ((Value.agg #[(.int .i64 0), (.int .u8 0), (S ([] : List UInt8)), (.slice none 0 0), (S ([] : List UInt8))]) = (Value.agg #[(.int .i64 ((scanF no s).1.1)), (.int .u8 ((scanF no s).1.2.1)), (S ((scanF no s).1.2.2.1)), (.slice none 0 0), (S ((scanF no s).1.2.2.2.2))])) ∧ ((33 : Int) = (scanF no s).2) ∧ (([] : List (List UInt8)) = (scanF no s).1.2.2.2.1) := ⟨(by (rw [scan_unnamed (by assumption) (by assumption) (.inr (by assumption))]; try rfl; done)), (by (rw [scan_unnamed (by assumption) (by assumption) (.inr (by assumption))]; try rfl; done)), (by (rw [scan_unnamed (by assumption) (by assumption) (.inr (by assumption))]; try rfl; done))⟩
            exact ⟨(.slice none 0 0), tup2 (hE.1) (congrArg (Value.int .i64) hE.2.1), (Row.nil _ _ _ _ _).cast hE.2.2, hb⟩
        · intro h118
          refine L_as (L_as (L_as (L_nil (thenQ_normal (W_seq (W_seq (W_region (L_mv (L_not false (by kernel_rfl) (L_mv (L_skip (by kernel_rfl) (L_skip (by kernel_rfl) (L_skip (by kernel_rfl) (L_pickT (by kernel_rfl) (L_nil (thenQ_normal (W_true (by kernel_rfl) (W_seq (W_region (L_run (Value.agg #[(.int .i64 0), (.int .u8 0), (S ([] : List UInt8)), (.slice none 0 0), (S ([] : List UInt8))]) (by kernel_rfl) (by kernel_rfl) (L_storeA b1 0 [(.int .i64 0), (.int .u8 0), (S ([] : List UInt8)), (.slice none 0 0), (S ([] : List UInt8))] [(.int .i64 0), (.int .u8 0), (S ([] : List UInt8)), (.slice none 0 0), (S ([] : List UInt8))] [(.int .i64 0), (.int .u8 0), (S ([] : List UInt8)), (.slice none 0 0), (S ([] : List UInt8))] 25 (by kernel_rfl) (by kernel_rfl) rfl (by kernel_rfl) o_x4 (by kernel_rfl) rfl ?_)))))))))))))))))))))
          intro w119 hW120
          replace hb := hb.trans (hW120.below g_x4)
          replace hs := Nat.le_trans hs (Nat.le_of_eq hW120.size.symm)
          have n_o_x8 := obj_wrote o_x8 hW120 ne_x8_x4
          have n_r_q16 := r_q16.wrote hW120 (r_q16.ne o_x4 (by simp))
          replace o_x8 := n_o_x8; clear n_o_x8
          replace r_q16 := n_r_q16; clear n_r_q16
          replace o_x4 := hW120.here
          refine L_as (L_nil (thenQ_normal (W_ret (thenQ_ret (blkQ_ret (thenQ_ret ?_))))))
          refine end_ret [.cell 4 25, .tmp 5] [(Value.agg #[(.int .i64 0), (.int .u8 0), (S ([] : List UInt8)), (.slice none 0 0), (S ([] : List UInt8))]), (.int .i64 33)] rfl rfl ⟨⟨⟨b1, 0, none⟩, by kernel_rfl, load_agg [(.int .i64 0), (.int .u8 0), (S ([] : List UInt8)), (.slice none 0 0), (S ([] : List UInt8))] (by kernel_rfl) (by kernel_rfl) (cells_obj o_x4)⟩, by kernel_rfl, trivial⟩ ?_
          have hE : ((Value.agg #[(.int .i64 0), (.int .u8 0), (S ([] : List UInt8)), (.slice none 0 0), (S ([] : List UInt8))]) = (Value.agg #[(.int .i64 ((scanF no s).1.1)), (.int .u8 ((scanF no s).1.2.1)), (S ((scanF no s).1.2.2.1)), (.slice none 0 0), (S ((scanF no s).1.2.2.2.2))])) ∧ ((33 : Int) = (scanF no s).2) ∧ (([] : List (List UInt8)) = (scanF no s).1.2.2.2.1) := ⟨(by (rw [scan_unnamed (by assumption) (by assumption) (.inl (by assumption))]; try rfl; done)), (by (rw [scan_unnamed (by assumption) (by assumption) (.inl (by assumption))]; try rfl; done)), (by (rw [scan_unnamed (by assumption) (by assumption) (.inl (by assumption))]; try rfl; done))⟩
          exact ⟨(.slice none 0 0), tup2 (hE.1) (congrArg (Value.int .i64) hE.2.1), (Row.nil _ _ _ _ _).cast hE.2.2, hb⟩
      · intro h121
        refine L_as (L_nil (thenQ_normal (W_false (by kernel_rfl) (W_seq (W_region (L_mv (L_sne (trmF ((Lib.cut s ([35] : List UInt8)).1)) ([] : List UInt8) rfl (by kernel_rfl) (by kernel_rfl) ?_ ?_)))))))
        · intro h122
          refine L_as (L_nil (thenQ_normal (W_true (by kernel_rfl) (W_region (L_run (.pointer (some ⟨b11, 1, none⟩)) (by kernel_rfl) (by kernel_rfl) (L_store b11 1 (.int .u8 1) [(.int .i64 no), (.int .u8 0), (S ([] : List UInt8)), q16, (S ((cutF s).2))] [(.int .i64 no), (.int .u8 1), (S ([] : List UInt8)), q16, (S ((cutF s).2))] 25 (by kernel_rfl) (by kernel_rfl) rfl (by kernel_rfl) o_x8 (by simp) rfl ?_))))))
          intro w123 hW124
          replace hb := hb.trans (hW124.below g_x8)
          replace hs := Nat.le_trans hs (Nat.le_of_eq hW124.size.symm)
          have n_o_x4 := obj_wrote o_x4 hW124 ne_x4_x8
          have n_r_q16 := r_q16.wrote hW124 (r_q16.ne o_x8 (by simp))
          replace o_x4 := n_o_x4; clear n_o_x4
          replace r_q16 := n_r_q16; clear n_r_q16
          replace o_x8 := hW124.here
          refine L_nil (blkQ_normal (thenQ_normal (W_seq (W_region (L_loadA b11 0 [(.int .i64 no), (.int .u8 1), (S ([] : List UInt8)), q16, (S ((cutF s).2))] (by kernel_rfl) (by kernel_rfl) (by kernel_rfl) (cells_at o_x8 0 (by kernel_rfl)) (L_storeA b1 0 [(.int .i64 no), (.int .u8 1), (S ([] : List UInt8)), q16, (S ((cutF s).2))] [(.int .i64 0), (.int .u8 0), (S ([] : List UInt8)), (.slice none 0 0), (S ([] : List UInt8))] [(.int .i64 no), (.int .u8 1), (S ([] : List UInt8)), q16, (S ((cutF s).2))] 25 (by kernel_rfl) (by kernel_rfl) (allc rfl (allc rfl (allc rfl (allc r_q16.one (allc rfl rfl))))) (by kernel_rfl) o_x4 (by kernel_rfl) rfl ?_))))))
          intro w125 hW126
          replace hb := hb.trans (hW126.below g_x4)
          replace hs := Nat.le_trans hs (Nat.le_of_eq hW126.size.symm)
          have n_o_x8 := obj_wrote o_x8 hW126 ne_x8_x4
          have n_r_q16 := r_q16.wrote hW126 (r_q16.ne o_x4 (by simp))
          replace o_x8 := n_o_x8; clear n_o_x8
          replace r_q16 := n_r_q16; clear n_r_q16
          replace o_x4 := hW126.here
          refine L_as (L_nil (thenQ_normal (W_ret ?_)))
          refine end_ret [.cell 4 25, .tmp 5] [(Value.agg #[(.int .i64 no), (.int .u8 1), (S ([] : List UInt8)), q16, (S ((cutF s).2))]), (.int .i64 0)] rfl rfl ⟨⟨⟨b1, 0, none⟩, by kernel_rfl, load_agg [(.int .i64 no), (.int .u8 1), (S ([] : List UInt8)), q16, (S ((cutF s).2))] (by kernel_rfl) (by kernel_rfl) (cells_obj o_x4)⟩, by kernel_rfl, trivial⟩ ?_
          have hE : ((Value.agg #[(.int .i64 no), (.int .u8 1), (S ([] : List UInt8)), q16, (S ((cutF s).2))]) = (Value.agg #[(.int .i64 ((scanF no s).1.1)), (.int .u8 ((scanF no s).1.2.1)), (S ((scanF no s).1.2.2.1)), q16, (S ((scanF no s).1.2.2.2.2))])) ∧ ((0 : Int) = (scanF no s).2) ∧ ((cutF s).1 = (scanF no s).1.2.2.2.1) := ⟨(by (rw [scan_data (by assumption) (by assumption) (by assumption)]; try rfl; done)), (by (rw [scan_data (by assumption) (by assumption) (by assumption)]; try rfl; done)), (by (rw [scan_data (by assumption) (by assumption) (by assumption)]; try rfl; done))⟩
          exact ⟨q16, tup2 (hE.1) (congrArg (Value.int .i64) hE.2.1), r_q16.cast hE.2.2, hb⟩
        · intro h127
          refine L_as (L_nil (thenQ_normal (W_false (by kernel_rfl) (W_seq (W_region (L_run (.pointer (some ⟨b11, 4, none⟩)) (by kernel_rfl) (by kernel_rfl) (L_load b11 4 (S ((cutF s).2)) (by kernel_rfl) (by kernel_rfl) (cell_obj o_x8 rfl) (L_call 29 [(S ((cutF s).2)), (S ([64, 109, 105, 115, 115, 105, 110, 103, 58] : List UInt8))] (by kernel_rfl) (by kernel_rfl) (c_strings_HasPrefix ((cutF s).2) ([64, 109, 105, 115, 115, 105, 110, 103, 58] : List UInt8) _ ) ?_))))))))
          rintro _ w128 ⟨rfl, hB129⟩
          replace hb := hb.trans (hB129.mono hs)
          replace hs := Nat.le_trans hs (hB129.size)
          replace o_x4 := obj_below o_x4 hB129
          replace o_x8 := obj_below o_x8 hB129
          replace r_q16 := r_q16.below hB129
          refine put_split (hpB ((cutF s).2) ([64, 109, 105, 115, 115, 105, 110, 103, 58] : List UInt8)) ?_ ?_
          · intro h131
            have := hp_len h131; simp only [List.length_cons, List.length_nil] at this
            refine L_as (L_nil (thenQ_normal (W_true (by kernel_rfl) (W_seq (W_region (L_run (.pointer (some ⟨b11, 1, none⟩)) (by kernel_rfl) (by kernel_rfl) (L_store b11 1 (.int .u8 3) [(.int .i64 no), (.int .u8 0), (S ([] : List UInt8)), q16, (S ((cutF s).2))] [(.int .i64 no), (.int .u8 3), (S ([] : List UInt8)), q16, (S ((cutF s).2))] 25 (by kernel_rfl) (by kernel_rfl) rfl (by kernel_rfl) o_x8 (by simp) rfl ?_)))))))
            intro w132 hW133
            replace hb := hb.trans (hW133.below g_x8)
            replace hs := Nat.le_trans hs (Nat.le_of_eq hW133.size.symm)
            have n_o_x4 := obj_wrote o_x4 hW133 ne_x4_x8
            have n_r_q16 := r_q16.wrote hW133 (r_q16.ne o_x8 (by simp))
            replace o_x4 := n_o_x4; clear n_o_x4
            replace r_q16 := n_r_q16; clear n_r_q16
            replace o_x8 := hW133.here
            refine L_nil (thenQ_normal (W_region (L_run (.pointer (some ⟨b11, 4, none⟩)) (by kernel_rfl) (by kernel_rfl) (L_load b11 4 (S ((cutF s).2)) (by kernel_rfl) (by kernel_rfl) (cell_obj o_x8 rfl) (L_ssfrom ((cutF s).2) 9 Tryd.underlying9 (by kernel_rfl) ⟨.i64, by kernel_rfl⟩ (by first | omega | rfl | (simp only [List.length_drop, List.length_take] at *; omega)) (L_call 70 [(S (List.drop 9 ((cutF s).2)))] (by kernel_rfl) (by kernel_rfl) (c_lines_Cut (List.drop 9 ((cutF s).2)) _ (by first | omega | rfl | (simp only [List.length_drop, List.length_take] at *; omega))) ?_))))))
            rintro _ w135 ⟨q134, rfl, r_q134, hB136⟩
            have ap_r_q134_r_q16 := ap_call r_q134 r_q16; have ap_r_q16_r_q134 := ap_comm ap_r_q134_r_q16
            replace r_q134 := r_q134.base hs
            replace hb := hb.trans (hB136.mono hs)
            replace hs := Nat.le_trans hs (hB136.size)
            replace o_x4 := obj_below o_x4 hB136
            replace o_x8 := obj_below o_x8 hB136
            replace r_q16 := r_q16.below hB136
            refine L_mv (L_run q134 (by kernel_rfl) (by kernel_rfl) (L_run (S ((cutF (List.drop 9 ((cutF s).2))).2)) (by kernel_rfl) (by kernel_rfl) (L_run (.pointer (some ⟨b11, 3, none⟩)) (by kernel_rfl) (by kernel_rfl) (L_store b11 3 q134 [(.int .i64 no), (.int .u8 3), (S ([] : List UInt8)), q16, (S ((cutF s).2))] [(.int .i64 no), (.int .u8 3), (S ([] : List UInt8)), q134, (S ((cutF s).2))] 25 (by kernel_rfl) (by kernel_rfl) r_q134.one (by kernel_rfl) o_x8 (by simp) rfl ?_))))
            intro w138 hW139
            replace hb := hb.trans (hW139.below g_x8)
            replace hs := Nat.le_trans hs (Nat.le_of_eq hW139.size.symm)
            have n_o_x4 := obj_wrote o_x4 hW139 ne_x4_x8
            have n_r_q16 := r_q16.wrote hW139 (r_q16.ne o_x8 (by simp))
            have n_r_q134 := r_q134.wrote hW139 (r_q134.ne o_x8 (by simp))
            replace o_x4 := n_o_x4; clear n_o_x4
            replace r_q16 := n_r_q16; clear n_r_q16
            replace r_q134 := n_r_q134; clear n_r_q134
            replace o_x8 := hW139.here
            refine L_run (.pointer (some ⟨b11, 4, none⟩)) (by kernel_rfl) (by kernel_rfl) (L_store b11 4 (S ((cutF (List.drop 9 ((cutF s).2))).2)) [(.int .i64 no), (.int .u8 3), (S ([] : List UInt8)), q134, (S ((cutF s).2))] [(.int .i64 no), (.int .u8 3), (S ([] : List UInt8)), q134, (S ((cutF (List.drop 9 ((cutF s).2))).2))] 25 (by kernel_rfl) (by kernel_rfl) rfl (by kernel_rfl) o_x8 (by simp) rfl ?_)
            intro w140 hW141
            replace hb := hb.trans (hW141.below g_x8)
            replace hs := Nat.le_trans hs (Nat.le_of_eq hW141.size.symm)
            have n_o_x4 := obj_wrote o_x4 hW141 ne_x4_x8
            have n_r_q16 := r_q16.wrote hW141 (r_q16.ne o_x8 (by simp))
            have n_r_q134 := r_q134.wrote hW141 (r_q134.ne o_x8 (by simp))
            replace o_x4 := n_o_x4; clear n_o_x4
            replace r_q16 := n_r_q16; clear n_r_q16
            replace r_q134 := n_r_q134; clear n_r_q134
            replace o_x8 := hW141.here
            refine L_nil (blkQ_normal (thenQ_normal (W_seq (W_region (L_loadA b11 0 [(.int .i64 no), (.int .u8 3), (S ([] : List UInt8)), q134, (S ((cutF (List.drop 9 ((cutF s).2))).2))] (by kernel_rfl) (by kernel_rfl) (by kernel_rfl) (cells_at o_x8 0 (by kernel_rfl)) (L_storeA b1 0 [(.int .i64 no), (.int .u8 3), (S ([] : List UInt8)), q134, (S ((cutF (List.drop 9 ((cutF s).2))).2))] [(.int .i64 0), (.int .u8 0), (S ([] : List UInt8)), (.slice none 0 0), (S ([] : List UInt8))] [(.int .i64 no), (.int .u8 3), (S ([] : List UInt8)), q134, (S ((cutF (List.drop 9 ((cutF s).2))).2))] 25 (by kernel_rfl) (by kernel_rfl) (allc rfl (allc rfl (allc rfl (allc r_q134.one (allc rfl rfl))))) (by kernel_rfl) o_x4 (by kernel_rfl) rfl ?_))))))
            intro w142 hW143
            replace hb := hb.trans (hW143.below g_x4)
            replace hs := Nat.le_trans hs (Nat.le_of_eq hW143.size.symm)
            have n_o_x8 := obj_wrote o_x8 hW143 ne_x8_x4
            have n_r_q16 := r_q16.wrote hW143 (r_q16.ne o_x4 (by simp))
            have n_r_q134 := r_q134.wrote hW143 (r_q134.ne o_x4 (by simp))
            replace o_x8 := n_o_x8; clear n_o_x8
            replace r_q16 := n_r_q16; clear n_r_q16
            replace r_q134 := n_r_q134; clear n_r_q134
            replace o_x4 := hW143.here
            refine L_as (L_nil (thenQ_normal (W_ret ?_)))
            refine end_ret [.cell 4 25, .tmp 5] [(Value.agg #[(.int .i64 no), (.int .u8 3), (S ([] : List UInt8)), q134, (S ((cutF (List.drop 9 ((cutF s).2))).2))]), (.int .i64 0)] rfl rfl ⟨⟨⟨b1, 0, none⟩, by kernel_rfl, load_agg [(.int .i64 no), (.int .u8 3), (S ([] : List UInt8)), q134, (S ((cutF (List.drop 9 ((cutF s).2))).2))] (by kernel_rfl) (by kernel_rfl) (cells_obj o_x4)⟩, by kernel_rfl, trivial⟩ ?_
            have hE : ((Value.agg #[(.int .i64 no), (.int .u8 3), (S ([] : List UInt8)), q134, (S ((cutF (List.drop 9 ((cutF s).2))).2))]) = (Value.agg #[(.int .i64 ((scanF no s).1.1)), (.int .u8 ((scanF no s).1.2.1)), (S ((scanF no s).1.2.2.1)), q134, (S ((scanF no s).1.2.2.2.2))])) ∧ ((0 : Int) = (scanF no s).2) ∧ ((cutF (List.drop 9 ((cutF s).2))).1 = (scanF no s).1.2.2.2.1) := ⟨(by (rw [scan_miss (by assumption) (by assumption) (by assumption)]; try rfl; done)), (by (rw [scan_miss (by assumption) (by assumption) (by assumption)]; try rfl; done)), (by (rw [scan_miss (by assumption) (by assumption) (by assumption)]; try rfl; done))⟩
            exact ⟨q134, tup2 (hE.1) (congrArg (Value.int .i64) hE.2.1), r_q134.cast hE.2.2, hb⟩
          · intro h144
            refine L_as (L_nil (thenQ_normal (W_false (by kernel_rfl) (W_skip (blkQ_normal (thenQ_normal (W_seq (W_region (L_loadA b11 0 [(.int .i64 no), (.int .u8 0), (S ([] : List UInt8)), q16, (S ((cutF s).2))] (by kernel_rfl) (by kernel_rfl) (by kernel_rfl) (cells_at o_x8 0 (by kernel_rfl)) (L_storeA b1 0 [(.int .i64 no), (.int .u8 0), (S ([] : List UInt8)), q16, (S ((cutF s).2))] [(.int .i64 0), (.int .u8 0), (S ([] : List UInt8)), (.slice none 0 0), (S ([] : List UInt8))] [(.int .i64 no), (.int .u8 0), (S ([] : List UInt8)), q16, (S ((cutF s).2))] 25 (by kernel_rfl) (by kernel_rfl) (allc rfl (allc rfl (allc rfl (allc r_q16.one (allc rfl rfl))))) (by kernel_rfl) o_x4 (by kernel_rfl) rfl ?_))))))))))
            intro w145 hW146
            replace hb := hb.trans (hW146.below g_x4)
            replace hs := Nat.le_trans hs (Nat.le_of_eq hW146.size.symm)
            have n_o_x8 := obj_wrote o_x8 hW146 ne_x8_x4
            have n_r_q16 := r_q16.wrote hW146 (r_q16.ne o_x4 (by simp))
            replace o_x8 := n_o_x8; clear n_o_x8
            replace r_q16 := n_r_q16; clear n_r_q16
            replace o_x4 := hW146.here
            refine L_as (L_nil (thenQ_normal (W_ret ?_)))
            refine end_ret [.cell 4 25, .tmp 5] [(Value.agg #[(.int .i64 no), (.int .u8 0), (S ([] : List UInt8)), q16, (S ((cutF s).2))]), (.int .i64 0)] rfl rfl ⟨⟨⟨b1, 0, none⟩, by kernel_rfl, load_agg [(.int .i64 no), (.int .u8 0), (S ([] : List UInt8)), q16, (S ((cutF s).2))] (by kernel_rfl) (by kernel_rfl) (cells_obj o_x4)⟩, by kernel_rfl, trivial⟩ ?_
            have hE : ((Value.agg #[(.int .i64 no), (.int .u8 0), (S ([] : List UInt8)), q16, (S ((cutF s).2))]) = (Value.agg #[(.int .i64 ((scanF no s).1.1)), (.int .u8 ((scanF no s).1.2.1)), (S ((scanF no s).1.2.2.1)), q16, (S ((scanF no s).1.2.2.2.2))])) ∧ ((0 : Int) = (scanF no s).2) ∧ ((cutF s).1 = (scanF no s).1.2.2.2.1) := ⟨(by (rw [scan_blank (by assumption) (by assumption) (by assumption)]; try rfl; done)), (by (rw [scan_blank (by assumption) (by assumption) (by assumption)]; try rfl; done)), (by (rw [scan_blank (by assumption) (by assumption) (by assumption)]; try rfl; done))⟩
            exact ⟨q16, tup2 (hE.1) (congrArg (Value.int .i64) hE.2.1), r_q16.cast hE.2.2, hb⟩

end Go.Proofs.YtjdcmeoiommglaaDoor
