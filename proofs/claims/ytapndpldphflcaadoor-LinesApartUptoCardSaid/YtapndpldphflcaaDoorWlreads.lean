/- Walks, written by my program walk.py out of the specification lreads.py: each theorem says what one function returns and that it leaves memory as it was. -/
import Derived.Test.YtapndpldphflcaaDoorPLrds
import Derived.Test.YtapndpldphflcaaDoorWllines
import Derived.Test.YtapndpldphflcaaDoorWlscan
import Derived.Test.YtapndpldphflcaaDoorWlread
import Derived.Test.YtapndpldphflcaaDoorWlread2
import Derived.Test.YtapndpldphflcaaDoorWlawake
import Derived.Test.YtapndpldphflcaaDoorWlref
import Derived.Test.YtapndpldphflcaaDoorWllaw
import Derived.Test.YtapndpldphflcaaDoorFKu
import Derived.Test.YtapndpldphflcaaDoorProg
import Derived.Tactics2
namespace Go.Proofs.YtapndpldphflcaaDoor
open Go Go.RowKit Go.FK
set_option linter.unusedVariables false
set_option linter.unusedSimpArgs false


set_option maxHeartbeats 4000000 in
set_option maxRecDepth 100000 in
theorem c_ref03_Read_ok (s : List UInt8) (w : World) (hs : s.length ≤ 1073741820) (hok : (badL (toldF s)).2 = 0) :
    Calls Tryd.prog 31 #[(S s)] w (Ret fun v w' => ∃ (l0 : List LineV) (q0 : Value), v = (.tuple #[q0, (.int .i64 0), (.int .i64 0)]) ∧ NRow 9 w' w.heap.size 47 5 encLine q0 l0 ∧ l0.map stripL = linesF (toldF s) ∧ l0.length ≤ 1073741824 ∧ (∀ x ∈ l0, x.fs.length ≤ 1073741824) ∧ Below w.heap.size w w') := by
  refine enter (args := [(S s)]) Tryd.func31 rfl (by kernel_rfl : _ = 41) (by kernel_rfl) ?_
  have hb := Below.refl w.heap.size w
  have hs : w.heap.size ≤ w.heap.size := Nat.le_refl _
  have hpr := pcsR_len s
  refine W_seq (W_region (L_as (L_as (L_as (L_nil (thenQ_normal (W_seq (W_region (L_as (L_nil (thenQ_normal (W_seq (W_seq (W_region (L_mv (L_call 17 [(S s)] (by kernel_rfl) (by kernel_rfl) (c_furrowref03_Pieces s _ (by first | omega | (simp only [List.length_drop, List.length_take]; omega))) ?_))))))))))))))))
  rintro q1 w2 ⟨_, rfl, r_q1, hB3⟩
  replace r_q1 := r_q1.base hs
  replace hb := hb.trans (hB3.mono hs)
  replace hs := Nat.le_trans hs (hB3.size)
  refine L_len 23 75 (pcsR s).length q1 rfl Tryd.underlying23 (r_q1.rd).len (by kernel_rfl) (L_mv (L_nil (thenQ_normal (W_block ?_))))
  refine W_loop (fun m s0 w0 => ∃ (k : Nat) (acc : List LineV) (v_5 : Value), (m = (pcsR s).length - k) ∧ (s0.ds = []) ∧ (s0.f 0 = (S s)) ∧ (s0.f 11 = q1) ∧ (s0.f 12 = (.int .i64 (((pcsR s).length : Nat) : Int))) ∧ (s0.f 5 = v_5) ∧ (s0.f 13 = (.int .i64 ((k : Nat) : Int))) ∧ (Row w0 w.heap.size 75 3 encPcN q1 (pcsR s)) ∧ (NRow 9 w0 w.heap.size 47 5 encLine v_5 acc) ∧ (Below w.heap.size w w0) ∧ (w.heap.size ≤ w0.heap.size) ∧ (k ≤ (pcsR s).length) ∧ (acc.length = k) ∧ (acc.map stripL = linesF ((toldF s).take k))) _ ⟨0, [], (.slice none 0 0), rfl, by kernel_rfl, by kernel_rfl, by kernel_rfl, by kernel_rfl, by kernel_rfl, by kernel_rfl, r_q1, NRow.nil _ _ _ _ _ _, hb, hs, (Nat.zero_le _), rfl, rfl⟩ ?_
  rintro m5 s6 w7 ⟨k, acc, v_5, hm, hds, f_0, f_11, f_12, f_5, f_13, r_q1, r_5, hb, hs, i1, i2, i3⟩
  refine W_set 0 _ f_0 (W_set 11 _ f_11 (W_set 12 _ f_12 (W_set 5 _ f_5 (W_set 13 _ f_13 ?_))))
  clear f_0 f_11 f_12 f_5 f_13
  refine W_seq (W_region (L_cmp .i64 ((k : Nat) : Int) (((pcsR s).length : Nat) : Int) (k < (pcsR s).length) rfl (cmpN_lt k ((pcsR s).length)) (by kernel_rfl) (by kernel_rfl) ?_ ?_))
  · intro h8
    replace h8 : k < (pcsR s).length := by omega
    refine L_nil (thenQ_normal (W_seq (W_true (by kernel_rfl) (W_skip (thenQ_normal (W_seq (W_block (W_seq (W_region (L_mv ?_))))))))))
    have hz := get_some (pcsR s) k (by first | omega | (simp only [List.length_drop, List.length_take]; omega)); obtain ⟨x9, hx10⟩ := hz
    have hz := (r_q1.rd).at (k := 3) (fun _ => rfl) hx10
    obtain ⟨g11, off12, hl13, hc14⟩ := hz
    have hp_x9 := pcsR_ok hx10
    have hl_x9 : (List.drop x9.1 (List.take x9.2.1 s)).length = x9.2.1 - x9.1 := by simp only [List.length_drop, List.length_take]; omega
    have hz_x9 := ok_at hok hx10
    refine L_ixaddr (k := .i64) q1 k _ g11 off12 el23 hl13 (by first | omega | (simp only [List.length_drop, List.length_take]; omega)) (by kernel_rfl) (by kernel_rfl) (L_loadA g11 (off12 + k * 3) [(.int .i64 ((x9.1 : Nat) : Int)), (.int .i64 ((x9.2.1 : Nat) : Int)), (.int .i64 ((x9.2.2 : Nat) : Int))] (by kernel_rfl) (by kernel_rfl) (by kernel_rfl) hc14 (L_new (fun b => .pointer (some ⟨b, 0, none⟩)) (.cells [(.int .i64 0), (.int .i64 0), (.int .i64 0)].toArray 75 (0, 0)) (by kernel_rfl) (by kernel_rfl) ?_))
    intro b15 w16 hN17
    have g_x7 : w.heap.size ≤ b15 := by rw [hN17.num]; exact hs
    have nb_o_x7_r_q1 := r_q1.new_ne hN17
    replace hb := hb.trans (hN17.below.mono hs)
    replace hs := Nat.le_trans hs (hN17.below.size)
    replace r_q1 := r_q1.below hN17.below
    replace r_5 := r_5.below hN17.below
    have o_x7 := hN17.here
    refine L_as (L_storeA b15 0 [(.int .i64 ((x9.1 : Nat) : Int)), (.int .i64 ((x9.2.1 : Nat) : Int)), (.int .i64 ((x9.2.2 : Nat) : Int))] [(.int .i64 0), (.int .i64 0), (.int .i64 0)] [(.int .i64 ((x9.1 : Nat) : Int)), (.int .i64 ((x9.2.1 : Nat) : Int)), (.int .i64 ((x9.2.2 : Nat) : Int))] 75 (by kernel_rfl) (by kernel_rfl) rfl (by kernel_rfl) o_x7 (by kernel_rfl) rfl ?_)
    intro w18 hW19
    replace hb := hb.trans (hW19.below g_x7)
    replace hs := Nat.le_trans hs (Nat.le_of_eq hW19.size.symm)
    have n_r_q1 := r_q1.wrote hW19 nb_o_x7_r_q1
    have n_r_5 := r_5.wrote hW19 (r_5.ne o_x7 (by simp))
    replace r_q1 := n_r_q1; clear n_r_q1
    replace r_5 := n_r_5; clear n_r_5
    replace o_x7 := hW19.here
    refine L_nil (thenQ_normal (W_seq (W_region (L_mv (L_addN k 1 (by omega) (by kernel_rfl) (by kernel_rfl) (L_mv (L_run (.pointer (some ⟨b15, 0, none⟩)) (by kernel_rfl) (by kernel_rfl) (L_load b15 0 (.int .i64 ((x9.1 : Nat) : Int)) (by kernel_rfl) (by kernel_rfl) (cell_obj o_x7 rfl) (L_run (.pointer (some ⟨b15, 1, none⟩)) (by kernel_rfl) (by kernel_rfl) (L_load b15 1 (.int .i64 ((x9.2.1 : Nat) : Int)) (by kernel_rfl) (by kernel_rfl) (cell_obj o_x7 rfl) (L_sslice s x9.1 x9.2.1 Tryd.underlying9 (by kernel_rfl) ⟨.i64, by kernel_rfl⟩ ⟨.i64, by kernel_rfl⟩ (by first | omega | (simp only [List.length_drop, List.length_take]; omega)) (by first | omega | (simp only [List.length_drop, List.length_take]; omega)) (L_call 28 [(.int .i64 (((k + 1) : Nat) : Int)), (S (List.drop x9.1 (List.take x9.2.1 s)))] (by kernel_rfl) (by kernel_rfl) (c_furrowref03_Scan (((k + 1) : Nat) : Int) (List.drop x9.1 (List.take x9.2.1 s)) _ (by first | omega | (simp only [List.length_drop, List.length_take]; omega))) ?_))))))))))))
    rintro _ w21 ⟨q20, rfl, r_q20, hB22⟩
    replace r_q20 := r_q20.base hs
    replace hb := hb.trans (hB22.mono hs)
    replace hs := Nat.le_trans hs (hB22.size)
    replace o_x7 := obj_below o_x7 hB22
    replace r_q1 := r_q1.below hB22
    replace r_5 := r_5.below hB22
    have := scan_err (((k + 1) : Nat) : Int) (List.drop x9.1 (List.take x9.2.1 s))
    refine L_mv (L_run (Value.agg #[(.int .i64 ((scanF (((k + 1) : Nat) : Int) (List.drop x9.1 (List.take x9.2.1 s))).1.1)), (.int .u8 ((scanF (((k + 1) : Nat) : Int) (List.drop x9.1 (List.take x9.2.1 s))).1.2.1)), (S ((scanF (((k + 1) : Nat) : Int) (List.drop x9.1 (List.take x9.2.1 s))).1.2.2.1)), q20, (S ((scanF (((k + 1) : Nat) : Int) (List.drop x9.1 (List.take x9.2.1 s))).1.2.2.2.2))]) (by kernel_rfl) (by kernel_rfl) (L_run (.int .i64 ((scanF (((k + 1) : Nat) : Int) (List.drop x9.1 (List.take x9.2.1 s))).2)) (by kernel_rfl) (by kernel_rfl) (L_new (fun b => .pointer (some ⟨b, 0, none⟩)) (.cells [(.int .i64 0), (.int .u8 0), (S ([] : List UInt8)), (.slice none 0 0), (S ([] : List UInt8))].toArray 47 (0, 0)) (by kernel_rfl) (by kernel_rfl) ?_)))
    intro b24 w25 hN26
    have ne_x7_x8 : b15 ≠ b24 := by have := (obj_lt o_x7); have := hN26.num; omega
    have ne_x8_x7 := ne_x7_x8.symm
    have g_x8 : w.heap.size ≤ b24 := by rw [hN26.num]; exact hs
    have nb_o_x8_r_5 := r_5.new_ne hN26
    replace hb := hb.trans (hN26.below.mono hs)
    replace hs := Nat.le_trans hs (hN26.below.size)
    replace o_x7 := obj_below o_x7 hN26.below
    replace r_q1 := r_q1.below hN26.below
    replace r_5 := r_5.below hN26.below
    replace r_q20 := r_q20.below hN26.below
    have o_x8 := hN26.here
    refine L_storeA b24 0 [(.int .i64 ((scanF (((k + 1) : Nat) : Int) (List.drop x9.1 (List.take x9.2.1 s))).1.1)), (.int .u8 ((scanF (((k + 1) : Nat) : Int) (List.drop x9.1 (List.take x9.2.1 s))).1.2.1)), (S ((scanF (((k + 1) : Nat) : Int) (List.drop x9.1 (List.take x9.2.1 s))).1.2.2.1)), q20, (S ((scanF (((k + 1) : Nat) : Int) (List.drop x9.1 (List.take x9.2.1 s))).1.2.2.2.2))] [(.int .i64 0), (.int .u8 0), (S ([] : List UInt8)), (.slice none 0 0), (S ([] : List UInt8))] [(.int .i64 ((scanF (((k + 1) : Nat) : Int) (List.drop x9.1 (List.take x9.2.1 s))).1.1)), (.int .u8 ((scanF (((k + 1) : Nat) : Int) (List.drop x9.1 (List.take x9.2.1 s))).1.2.1)), (S ((scanF (((k + 1) : Nat) : Int) (List.drop x9.1 (List.take x9.2.1 s))).1.2.2.1)), q20, (S ((scanF (((k + 1) : Nat) : Int) (List.drop x9.1 (List.take x9.2.1 s))).1.2.2.2.2))] 47 (by kernel_rfl) (by kernel_rfl) (allc rfl (allc rfl (allc rfl (allc r_q20.one (allc rfl rfl))))) (by kernel_rfl) o_x8 (by kernel_rfl) rfl ?_
    intro w27 hW28
    replace hb := hb.trans (hW28.below g_x8)
    replace hs := Nat.le_trans hs (Nat.le_of_eq hW28.size.symm)
    have n_o_x7 := obj_wrote o_x7 hW28 (obj_ne o_x7 o_x8 (by simp))
    have n_r_q1 := r_q1.wrote hW28 (r_q1.ne o_x8 (by simp))
    have n_r_5 := r_5.wrote hW28 nb_o_x8_r_5
    have n_r_q20 := r_q20.wrote hW28 (r_q20.ne o_x8 (by simp))
    replace o_x7 := n_o_x7; clear n_o_x7
    replace r_q1 := n_r_q1; clear n_r_q1
    replace r_5 := n_r_5; clear n_r_5
    replace r_q20 := n_r_q20; clear n_r_q20
    replace o_x8 := hW28.here
    refine L_as (L_nil (thenQ_normal (W_seq (W_seq (W_region (L_mv (L_cmp .i64 ((scanF (((k + 1) : Nat) : Int) (List.drop x9.1 (List.take x9.2.1 s))).2) 0 ((scanF (((k + 1) : Nat) : Int) (List.drop x9.1 (List.take x9.2.1 s))).2 ≠ 0) rfl (cmp_ne ((scanF (((k + 1) : Nat) : Int) (List.drop x9.1 (List.take x9.2.1 s))).2) 0) (by kernel_rfl) (by kernel_rfl) ?_ ?_)))))))
    · intro h29
      replace h29 : (scanF (((k + 1) : Nat) : Int) (List.drop x9.1 (List.take x9.2.1 s))).2 ≠ 0 := by omega
      exfalso; omega
    · intro h30
      replace h30 : (scanF (((k + 1) : Nat) : Int) (List.drop x9.1 (List.take x9.2.1 s))).2 = 0 := by omega
      refine L_nil (thenQ_normal (W_false (by kernel_rfl) (W_skip (thenQ_normal (W_region (L_mv (L_loadA b24 0 [(.int .i64 ((scanF (((k + 1) : Nat) : Int) (List.drop x9.1 (List.take x9.2.1 s))).1.1)), (.int .u8 ((scanF (((k + 1) : Nat) : Int) (List.drop x9.1 (List.take x9.2.1 s))).1.2.1)), (S ((scanF (((k + 1) : Nat) : Int) (List.drop x9.1 (List.take x9.2.1 s))).1.2.2.1)), q20, (S ((scanF (((k + 1) : Nat) : Int) (List.drop x9.1 (List.take x9.2.1 s))).1.2.2.2.2))] (by kernel_rfl) (by kernel_rfl) (by kernel_rfl) (cells_at o_x8 0 (by kernel_rfl)) (L_app el54 w.heap.size v_5 acc ((scanF (((k + 1) : Nat) : Int) (List.drop x9.1 (List.take x9.2.1 s))).1.1, (scanF (((k + 1) : Nat) : Int) (List.drop x9.1 (List.take x9.2.1 s))).1.2.1, (scanF (((k + 1) : Nat) : Int) (List.drop x9.1 (List.take x9.2.1 s))).1.2.2.1, (q20, (scanF (((k + 1) : Nat) : Int) (List.drop x9.1 (List.take x9.2.1 s))).1.2.2.2.1), (scanF (((k + 1) : Nat) : Int) (List.drop x9.1 (List.take x9.2.1 s))).1.2.2.2.2) hs r_5.1 (by omega) (by kernel_rfl) rfl (allc rfl (allc rfl (allc rfl (allc r_q20.one (allc rfl rfl))))) (by kernel_rfl) rfl (by kernel_rfl) (by kernel_rfl) ?_))))))))
      intro v31 w32 hr33 hg34 how35
      have nc_o_x8 := ownb_app how35 (fun e => nb_o_x8_r_5 (.inl e)) (obj_lt o_x8)
      have nc_o_x8 := nbN_push (x := ((scanF (((k + 1) : Nat) : Int) (List.drop x9.1 (List.take x9.2.1 s))).1.1, (scanF (((k + 1) : Nat) : Int) (List.drop x9.1 (List.take x9.2.1 s))).1.2.1, (scanF (((k + 1) : Nat) : Int) (List.drop x9.1 (List.take x9.2.1 s))).1.2.2.1, (q20, (scanF (((k + 1) : Nat) : Int) (List.drop x9.1 (List.take x9.2.1 s))).1.2.2.2.1), (scanF (((k + 1) : Nat) : Int) (List.drop x9.1 (List.take x9.2.1 s))).1.2.2.2.2)) nb_o_x8_r_5 nc_o_x8 (r_q20.ne o_x8 (by simp))
      replace hb := hb.grown hg34 hs (fun k hk => (World.ownsRow.lt r_5.1 k hk).1)
      replace hs := Nat.le_trans hs (hg34.size)
      have n_o_x7 := obj_grown o_x7 hg34 (r_5.1.ne o_x7 (by simp))
      have n_o_x8 := obj_grown o_x8 hg34 (fun e => nb_o_x8_r_5 (.inl e))
      have n_r_q1 := r_q1.grown hg34 (r_q1.apart r_5.1 (by kernel_rfl))
      have n_r_q20 := r_q20.grown hg34 (r_q20.apart r_5.1 (by kernel_rfl))
      replace o_x7 := n_o_x7; clear n_o_x7
      replace o_x8 := n_o_x8; clear n_o_x8
      replace r_q1 := n_r_q1; clear n_r_q1
      replace r_q20 := n_r_q20; clear n_r_q20
      have nb_o_x8_r_5 := nc_o_x8
      replace r_5 := NRow.push r_5 hg34 hr33 r_q20 (by kernel_rfl)
      refine L_as (L_nil (blkQ_normal (thenQ_normal (W_region (L_addN k 1 (by omega) (by kernel_rfl) (by kernel_rfl) (L_mv (L_nil ?_)))))))
      refine thenQ_normal ⟨_, ?_, (k + 1), (acc ++ [((scanF (((k + 1) : Nat) : Int) (List.drop x9.1 (List.take x9.2.1 s))).1.1, (scanF (((k + 1) : Nat) : Int) (List.drop x9.1 (List.take x9.2.1 s))).1.2.1, (scanF (((k + 1) : Nat) : Int) (List.drop x9.1 (List.take x9.2.1 s))).1.2.2.1, (q20, (scanF (((k + 1) : Nat) : Int) (List.drop x9.1 (List.take x9.2.1 s))).1.2.2.2.1), (scanF (((k + 1) : Nat) : Int) (List.drop x9.1 (List.take x9.2.1 s))).1.2.2.2.2)]), v31, rfl, hds, by kernel_rfl, by kernel_rfl, by kernel_rfl, by kernel_rfl, by kernel_rfl, r_q1, r_5, hb, hs, ?_, ?_, ?_⟩
      · omega
      · omega
      · simp only [List.length_append, List.length_cons, List.length_nil]; omega
      · exact lines_at (by assumption) i3 rfl
  · intro h36
    replace h36 : (pcsR s).length ≤ k := by omega
    refine L_nil (thenQ_normal (W_seq (W_false (by kernel_rfl) (W_exit (thenQ_exit (thenQ_exit (blkQ_exit (thenQ_normal (W_seq (W_region (L_mv (L_as (L_as (L_as (L_nil (thenQ_normal (W_ret ?_)))))))))))))))))
    refine end_ret [.tmp 2, .tmp 3, .tmp 4] [v_5, (.int .i64 0), (.int .i64 0)] rfl hds ⟨by kernel_rfl, by kernel_rfl, by kernel_rfl, trivial⟩ ?_
    have hE : (0 = 0) ∧ (0 = 0) := ⟨(by first | rfl | (simp_all; done) | omega), (by first | rfl | (simp_all; done) | omega)⟩
    exact ⟨acc, v_5, tup3 (rfl) (congrArg (fun x : Nat => Value.int .i64 (x : Int)) hE.1) (congrArg (fun x : Nat => Value.int .i64 (x : Int)) hE.2), r_5, (by rw [i3, told_take (by omega)]), (by (have hz := lines_len i3; rw [told_take (by omega)] at hz; have hy := told_len s; omega)), (by (rw [told_take (by omega)] at i3; exact fs_len i3 (by omega))), hb⟩

set_option maxHeartbeats 4000000 in
set_option maxRecDepth 100000 in
theorem c_ref03_Read_bad (s : List UInt8) (w : World) (hs : s.length ≤ 1073741820) (hbad : (badL (toldF s)).2 ≠ 0) :
    Calls Tryd.prog 31 #[(S s)] w (Ret fun v w' => v = (.tuple #[(.slice none 0 0), (.int .i64 ((badL (toldF s)).1)), (.int .i64 ((badL (toldF s)).2))]) ∧ Below w.heap.size w w') := by
  refine enter (args := [(S s)]) Tryd.func31 rfl (by kernel_rfl : _ = 41) (by kernel_rfl) ?_
  have hb := Below.refl w.heap.size w
  have hs : w.heap.size ≤ w.heap.size := Nat.le_refl _
  have hpr := pcsR_len s
  refine W_seq (W_region (L_as (L_as (L_as (L_nil (thenQ_normal (W_seq (W_region (L_as (L_nil (thenQ_normal (W_seq (W_seq (W_region (L_mv (L_call 17 [(S s)] (by kernel_rfl) (by kernel_rfl) (c_furrowref03_Pieces s _ (by first | omega | (simp only [List.length_drop, List.length_take]; omega))) ?_))))))))))))))))
  rintro q1 w2 ⟨_, rfl, r_q1, hB3⟩
  replace r_q1 := r_q1.base hs
  replace hb := hb.trans (hB3.mono hs)
  replace hs := Nat.le_trans hs (hB3.size)
  refine L_len 23 75 (pcsR s).length q1 rfl Tryd.underlying23 (r_q1.rd).len (by kernel_rfl) (L_mv (L_nil (thenQ_normal (W_block ?_))))
  refine W_loop (fun m s0 w0 => ∃ (k : Nat) (acc : List LineV) (v_5 : Value), (m = (pcsR s).length - k) ∧ (s0.ds = []) ∧ (s0.f 0 = (S s)) ∧ (s0.f 11 = q1) ∧ (s0.f 12 = (.int .i64 (((pcsR s).length : Nat) : Int))) ∧ (s0.f 5 = v_5) ∧ (s0.f 13 = (.int .i64 ((k : Nat) : Int))) ∧ (Row w0 w.heap.size 75 3 encPcN q1 (pcsR s)) ∧ (NRow 9 w0 w.heap.size 47 5 encLine v_5 acc) ∧ (Below w.heap.size w w0) ∧ (w.heap.size ≤ w0.heap.size) ∧ (k ≤ (pcsR s).length) ∧ (acc.length = k) ∧ ((badL ((toldF s).take k)).2 = 0)) _ ⟨0, [], (.slice none 0 0), rfl, by kernel_rfl, by kernel_rfl, by kernel_rfl, by kernel_rfl, by kernel_rfl, by kernel_rfl, r_q1, NRow.nil _ _ _ _ _ _, hb, hs, (Nat.zero_le _), rfl, rfl⟩ ?_
  rintro m5 s6 w7 ⟨k, acc, v_5, hm, hds, f_0, f_11, f_12, f_5, f_13, r_q1, r_5, hb, hs, i1, i2, i3⟩
  refine W_set 0 _ f_0 (W_set 11 _ f_11 (W_set 12 _ f_12 (W_set 5 _ f_5 (W_set 13 _ f_13 ?_))))
  clear f_0 f_11 f_12 f_5 f_13
  refine W_seq (W_region (L_cmp .i64 ((k : Nat) : Int) (((pcsR s).length : Nat) : Int) (k < (pcsR s).length) rfl (cmpN_lt k ((pcsR s).length)) (by kernel_rfl) (by kernel_rfl) ?_ ?_))
  · intro h8
    replace h8 : k < (pcsR s).length := by omega
    refine L_nil (thenQ_normal (W_seq (W_true (by kernel_rfl) (W_skip (thenQ_normal (W_seq (W_block (W_seq (W_region (L_mv ?_))))))))))
    have hz := get_some (pcsR s) k (by first | omega | (simp only [List.length_drop, List.length_take]; omega)); obtain ⟨x9, hx10⟩ := hz
    have hz := (r_q1.rd).at (k := 3) (fun _ => rfl) hx10
    obtain ⟨g11, off12, hl13, hc14⟩ := hz
    have hp_x9 := pcsR_ok hx10
    have hl_x9 : (List.drop x9.1 (List.take x9.2.1 s)).length = x9.2.1 - x9.1 := by simp only [List.length_drop, List.length_take]; omega
    refine L_ixaddr (k := .i64) q1 k _ g11 off12 el23 hl13 (by first | omega | (simp only [List.length_drop, List.length_take]; omega)) (by kernel_rfl) (by kernel_rfl) (L_loadA g11 (off12 + k * 3) [(.int .i64 ((x9.1 : Nat) : Int)), (.int .i64 ((x9.2.1 : Nat) : Int)), (.int .i64 ((x9.2.2 : Nat) : Int))] (by kernel_rfl) (by kernel_rfl) (by kernel_rfl) hc14 (L_new (fun b => .pointer (some ⟨b, 0, none⟩)) (.cells [(.int .i64 0), (.int .i64 0), (.int .i64 0)].toArray 75 (0, 0)) (by kernel_rfl) (by kernel_rfl) ?_))
    intro b15 w16 hN17
    have g_x7 : w.heap.size ≤ b15 := by rw [hN17.num]; exact hs
    have nb_o_x7_r_q1 := r_q1.new_ne hN17
    replace hb := hb.trans (hN17.below.mono hs)
    replace hs := Nat.le_trans hs (hN17.below.size)
    replace r_q1 := r_q1.below hN17.below
    replace r_5 := r_5.below hN17.below
    have o_x7 := hN17.here
    refine L_as (L_storeA b15 0 [(.int .i64 ((x9.1 : Nat) : Int)), (.int .i64 ((x9.2.1 : Nat) : Int)), (.int .i64 ((x9.2.2 : Nat) : Int))] [(.int .i64 0), (.int .i64 0), (.int .i64 0)] [(.int .i64 ((x9.1 : Nat) : Int)), (.int .i64 ((x9.2.1 : Nat) : Int)), (.int .i64 ((x9.2.2 : Nat) : Int))] 75 (by kernel_rfl) (by kernel_rfl) rfl (by kernel_rfl) o_x7 (by kernel_rfl) rfl ?_)
    intro w18 hW19
    replace hb := hb.trans (hW19.below g_x7)
    replace hs := Nat.le_trans hs (Nat.le_of_eq hW19.size.symm)
    have n_r_q1 := r_q1.wrote hW19 nb_o_x7_r_q1
    have n_r_5 := r_5.wrote hW19 (r_5.ne o_x7 (by simp))
    replace r_q1 := n_r_q1; clear n_r_q1
    replace r_5 := n_r_5; clear n_r_5
    replace o_x7 := hW19.here
    refine L_nil (thenQ_normal (W_seq (W_region (L_mv (L_addN k 1 (by omega) (by kernel_rfl) (by kernel_rfl) (L_mv (L_run (.pointer (some ⟨b15, 0, none⟩)) (by kernel_rfl) (by kernel_rfl) (L_load b15 0 (.int .i64 ((x9.1 : Nat) : Int)) (by kernel_rfl) (by kernel_rfl) (cell_obj o_x7 rfl) (L_run (.pointer (some ⟨b15, 1, none⟩)) (by kernel_rfl) (by kernel_rfl) (L_load b15 1 (.int .i64 ((x9.2.1 : Nat) : Int)) (by kernel_rfl) (by kernel_rfl) (cell_obj o_x7 rfl) (L_sslice s x9.1 x9.2.1 Tryd.underlying9 (by kernel_rfl) ⟨.i64, by kernel_rfl⟩ ⟨.i64, by kernel_rfl⟩ (by first | omega | (simp only [List.length_drop, List.length_take]; omega)) (by first | omega | (simp only [List.length_drop, List.length_take]; omega)) (L_call 28 [(.int .i64 (((k + 1) : Nat) : Int)), (S (List.drop x9.1 (List.take x9.2.1 s)))] (by kernel_rfl) (by kernel_rfl) (c_furrowref03_Scan (((k + 1) : Nat) : Int) (List.drop x9.1 (List.take x9.2.1 s)) _ (by first | omega | (simp only [List.length_drop, List.length_take]; omega))) ?_))))))))))))
    rintro _ w21 ⟨q20, rfl, r_q20, hB22⟩
    replace r_q20 := r_q20.base hs
    replace hb := hb.trans (hB22.mono hs)
    replace hs := Nat.le_trans hs (hB22.size)
    replace o_x7 := obj_below o_x7 hB22
    replace r_q1 := r_q1.below hB22
    replace r_5 := r_5.below hB22
    have := scan_err (((k + 1) : Nat) : Int) (List.drop x9.1 (List.take x9.2.1 s))
    refine L_mv (L_run (Value.agg #[(.int .i64 ((scanF (((k + 1) : Nat) : Int) (List.drop x9.1 (List.take x9.2.1 s))).1.1)), (.int .u8 ((scanF (((k + 1) : Nat) : Int) (List.drop x9.1 (List.take x9.2.1 s))).1.2.1)), (S ((scanF (((k + 1) : Nat) : Int) (List.drop x9.1 (List.take x9.2.1 s))).1.2.2.1)), q20, (S ((scanF (((k + 1) : Nat) : Int) (List.drop x9.1 (List.take x9.2.1 s))).1.2.2.2.2))]) (by kernel_rfl) (by kernel_rfl) (L_run (.int .i64 ((scanF (((k + 1) : Nat) : Int) (List.drop x9.1 (List.take x9.2.1 s))).2)) (by kernel_rfl) (by kernel_rfl) (L_new (fun b => .pointer (some ⟨b, 0, none⟩)) (.cells [(.int .i64 0), (.int .u8 0), (S ([] : List UInt8)), (.slice none 0 0), (S ([] : List UInt8))].toArray 47 (0, 0)) (by kernel_rfl) (by kernel_rfl) ?_)))
    intro b24 w25 hN26
    have ne_x7_x8 : b15 ≠ b24 := by have := (obj_lt o_x7); have := hN26.num; omega
    have ne_x8_x7 := ne_x7_x8.symm
    have g_x8 : w.heap.size ≤ b24 := by rw [hN26.num]; exact hs
    have nb_o_x8_r_5 := r_5.new_ne hN26
    replace hb := hb.trans (hN26.below.mono hs)
    replace hs := Nat.le_trans hs (hN26.below.size)
    replace o_x7 := obj_below o_x7 hN26.below
    replace r_q1 := r_q1.below hN26.below
    replace r_5 := r_5.below hN26.below
    replace r_q20 := r_q20.below hN26.below
    have o_x8 := hN26.here
    refine L_storeA b24 0 [(.int .i64 ((scanF (((k + 1) : Nat) : Int) (List.drop x9.1 (List.take x9.2.1 s))).1.1)), (.int .u8 ((scanF (((k + 1) : Nat) : Int) (List.drop x9.1 (List.take x9.2.1 s))).1.2.1)), (S ((scanF (((k + 1) : Nat) : Int) (List.drop x9.1 (List.take x9.2.1 s))).1.2.2.1)), q20, (S ((scanF (((k + 1) : Nat) : Int) (List.drop x9.1 (List.take x9.2.1 s))).1.2.2.2.2))] [(.int .i64 0), (.int .u8 0), (S ([] : List UInt8)), (.slice none 0 0), (S ([] : List UInt8))] [(.int .i64 ((scanF (((k + 1) : Nat) : Int) (List.drop x9.1 (List.take x9.2.1 s))).1.1)), (.int .u8 ((scanF (((k + 1) : Nat) : Int) (List.drop x9.1 (List.take x9.2.1 s))).1.2.1)), (S ((scanF (((k + 1) : Nat) : Int) (List.drop x9.1 (List.take x9.2.1 s))).1.2.2.1)), q20, (S ((scanF (((k + 1) : Nat) : Int) (List.drop x9.1 (List.take x9.2.1 s))).1.2.2.2.2))] 47 (by kernel_rfl) (by kernel_rfl) (allc rfl (allc rfl (allc rfl (allc r_q20.one (allc rfl rfl))))) (by kernel_rfl) o_x8 (by kernel_rfl) rfl ?_
    intro w27 hW28
    replace hb := hb.trans (hW28.below g_x8)
    replace hs := Nat.le_trans hs (Nat.le_of_eq hW28.size.symm)
    have n_o_x7 := obj_wrote o_x7 hW28 (obj_ne o_x7 o_x8 (by simp))
    have n_r_q1 := r_q1.wrote hW28 (r_q1.ne o_x8 (by simp))
    have n_r_5 := r_5.wrote hW28 nb_o_x8_r_5
    have n_r_q20 := r_q20.wrote hW28 (r_q20.ne o_x8 (by simp))
    replace o_x7 := n_o_x7; clear n_o_x7
    replace r_q1 := n_r_q1; clear n_r_q1
    replace r_5 := n_r_5; clear n_r_5
    replace r_q20 := n_r_q20; clear n_r_q20
    replace o_x8 := hW28.here
    refine L_as (L_nil (thenQ_normal (W_seq (W_seq (W_region (L_mv (L_cmp .i64 ((scanF (((k + 1) : Nat) : Int) (List.drop x9.1 (List.take x9.2.1 s))).2) 0 ((scanF (((k + 1) : Nat) : Int) (List.drop x9.1 (List.take x9.2.1 s))).2 ≠ 0) rfl (cmp_ne ((scanF (((k + 1) : Nat) : Int) (List.drop x9.1 (List.take x9.2.1 s))).2) 0) (by kernel_rfl) (by kernel_rfl) ?_ ?_)))))))
    · intro h29
      replace h29 : (scanF (((k + 1) : Nat) : Int) (List.drop x9.1 (List.take x9.2.1 s))).2 ≠ 0 := by omega
      refine L_nil (thenQ_normal (W_true (by kernel_rfl) (W_seq (W_region (L_mv (L_addN k 1 (by omega) (by kernel_rfl) (by kernel_rfl) (L_mv (L_as (L_as (L_as (L_nil (thenQ_normal (W_ret (thenQ_ret (blkQ_ret (thenQ_ret (thenQ_ret (blkQ_ret (thenQ_ret ?_)))))))))))))))))))
      refine end_ret [.tmp 2, .tmp 3, .tmp 4] [(.slice none 0 0), (.int .i64 (((k + 1) : Nat) : Int)), (.int .i64 ((scanF (((k + 1) : Nat) : Int) (List.drop x9.1 (List.take x9.2.1 s))).2))] rfl hds ⟨by kernel_rfl, by kernel_rfl, by kernel_rfl, trivial⟩ ?_
      have hE : (((((k + 1) : Nat) : Int) : Int) = (badL (toldF s)).1) ∧ (((scanF (((k + 1) : Nat) : Int) (List.drop x9.1 (List.take x9.2.1 s))).2 : Int) = (badL (toldF s)).2) := ⟨(by (rw [bad_here (by assumption) i3 (by omega)]; done)), (by (rw [bad_here (by assumption) i3 (by omega)]; done))⟩
      exact ⟨tup3 (rfl) (congrArg (Value.int .i64) hE.1) (congrArg (Value.int .i64) hE.2), hb⟩
    · intro h30
      replace h30 : (scanF (((k + 1) : Nat) : Int) (List.drop x9.1 (List.take x9.2.1 s))).2 = 0 := by omega
      refine L_nil (thenQ_normal (W_false (by kernel_rfl) (W_skip (thenQ_normal (W_region (L_mv (L_loadA b24 0 [(.int .i64 ((scanF (((k + 1) : Nat) : Int) (List.drop x9.1 (List.take x9.2.1 s))).1.1)), (.int .u8 ((scanF (((k + 1) : Nat) : Int) (List.drop x9.1 (List.take x9.2.1 s))).1.2.1)), (S ((scanF (((k + 1) : Nat) : Int) (List.drop x9.1 (List.take x9.2.1 s))).1.2.2.1)), q20, (S ((scanF (((k + 1) : Nat) : Int) (List.drop x9.1 (List.take x9.2.1 s))).1.2.2.2.2))] (by kernel_rfl) (by kernel_rfl) (by kernel_rfl) (cells_at o_x8 0 (by kernel_rfl)) (L_app el54 w.heap.size v_5 acc ((scanF (((k + 1) : Nat) : Int) (List.drop x9.1 (List.take x9.2.1 s))).1.1, (scanF (((k + 1) : Nat) : Int) (List.drop x9.1 (List.take x9.2.1 s))).1.2.1, (scanF (((k + 1) : Nat) : Int) (List.drop x9.1 (List.take x9.2.1 s))).1.2.2.1, (q20, (scanF (((k + 1) : Nat) : Int) (List.drop x9.1 (List.take x9.2.1 s))).1.2.2.2.1), (scanF (((k + 1) : Nat) : Int) (List.drop x9.1 (List.take x9.2.1 s))).1.2.2.2.2) hs r_5.1 (by omega) (by kernel_rfl) rfl (allc rfl (allc rfl (allc rfl (allc r_q20.one (allc rfl rfl))))) (by kernel_rfl) rfl (by kernel_rfl) (by kernel_rfl) ?_))))))))
      intro v31 w32 hr33 hg34 how35
      have nc_o_x8 := ownb_app how35 (fun e => nb_o_x8_r_5 (.inl e)) (obj_lt o_x8)
      have nc_o_x8 := nbN_push (x := ((scanF (((k + 1) : Nat) : Int) (List.drop x9.1 (List.take x9.2.1 s))).1.1, (scanF (((k + 1) : Nat) : Int) (List.drop x9.1 (List.take x9.2.1 s))).1.2.1, (scanF (((k + 1) : Nat) : Int) (List.drop x9.1 (List.take x9.2.1 s))).1.2.2.1, (q20, (scanF (((k + 1) : Nat) : Int) (List.drop x9.1 (List.take x9.2.1 s))).1.2.2.2.1), (scanF (((k + 1) : Nat) : Int) (List.drop x9.1 (List.take x9.2.1 s))).1.2.2.2.2)) nb_o_x8_r_5 nc_o_x8 (r_q20.ne o_x8 (by simp))
      replace hb := hb.grown hg34 hs (fun k hk => (World.ownsRow.lt r_5.1 k hk).1)
      replace hs := Nat.le_trans hs (hg34.size)
      have n_o_x7 := obj_grown o_x7 hg34 (r_5.1.ne o_x7 (by simp))
      have n_o_x8 := obj_grown o_x8 hg34 (fun e => nb_o_x8_r_5 (.inl e))
      have n_r_q1 := r_q1.grown hg34 (r_q1.apart r_5.1 (by kernel_rfl))
      have n_r_q20 := r_q20.grown hg34 (r_q20.apart r_5.1 (by kernel_rfl))
      replace o_x7 := n_o_x7; clear n_o_x7
      replace o_x8 := n_o_x8; clear n_o_x8
      replace r_q1 := n_r_q1; clear n_r_q1
      replace r_q20 := n_r_q20; clear n_r_q20
      have nb_o_x8_r_5 := nc_o_x8
      replace r_5 := NRow.push r_5 hg34 hr33 r_q20 (by kernel_rfl)
      refine L_as (L_nil (blkQ_normal (thenQ_normal (W_region (L_addN k 1 (by omega) (by kernel_rfl) (by kernel_rfl) (L_mv (L_nil ?_)))))))
      refine thenQ_normal ⟨_, ?_, (k + 1), (acc ++ [((scanF (((k + 1) : Nat) : Int) (List.drop x9.1 (List.take x9.2.1 s))).1.1, (scanF (((k + 1) : Nat) : Int) (List.drop x9.1 (List.take x9.2.1 s))).1.2.1, (scanF (((k + 1) : Nat) : Int) (List.drop x9.1 (List.take x9.2.1 s))).1.2.2.1, (q20, (scanF (((k + 1) : Nat) : Int) (List.drop x9.1 (List.take x9.2.1 s))).1.2.2.2.1), (scanF (((k + 1) : Nat) : Int) (List.drop x9.1 (List.take x9.2.1 s))).1.2.2.2.2)]), v31, rfl, hds, by kernel_rfl, by kernel_rfl, by kernel_rfl, by kernel_rfl, by kernel_rfl, r_q1, r_5, hb, hs, ?_, ?_, ?_⟩
      · omega
      · omega
      · simp only [List.length_append, List.length_cons, List.length_nil]; omega
      · exact bad_on (by assumption) i3 (by omega)
  · intro h36
    replace h36 : (pcsR s).length ≤ k := by omega
    exfalso; exact hbad (by rw [← told_take h36]; exact i3)


set_option maxHeartbeats 4000000 in
set_option maxRecDepth 100000 in
theorem c_furrowref03_SameAll (v_a : Value) (a : List (LineV)) (v_b : Value) (b : List (LineV)) (w : World) (p_a : NRd w v_a a) (p_b : NRd w v_b b) (ha : a.length ≤ 1073741824) (hb_ : b.length ≤ 1073741824) (hfa : ∀ x ∈ a, x.fs.length ≤ 1073741824) (hfb : ∀ x ∈ b, x.fs.length ≤ 1073741824) :
    Calls Tryd.prog 33 #[v_a, v_b] w (Ret fun v w' => v = (.bool (eqLs a b)) ∧ Below w.heap.size w w') := by
  refine enter (args := [v_a, v_b]) Tryd.func33 rfl (by kernel_rfl : _ = 27) (by kernel_rfl) ?_
  have hb := Below.refl w.heap.size w
  have hs : w.heap.size ≤ w.heap.size := Nat.le_refl _
  have in_p_a := p_a
  have in_p_b := p_b
  refine W_seq (W_region (L_as (L_nil (thenQ_normal (W_seq (W_seq (W_region (L_mv (L_len 54 47 (a).length v_a rfl Tryd.underlying54 (p_a.1).len (by kernel_rfl) (L_mv (L_len 54 47 (b).length v_b rfl Tryd.underlying54 (p_b.1).len (by kernel_rfl) (L_cmp .i64 (((a).length : Nat) : Int) (((b).length : Nat) : Int) ((a).length ≠ (b).length) rfl (cmpN_ne ((a).length) ((b).length)) (by kernel_rfl) (by kernel_rfl) ?_ ?_))))))))))))
  · intro h1
    replace h1 : (a).length ≠ (b).length := by omega
    refine L_nil (thenQ_normal (W_true (by kernel_rfl) (W_seq (W_region (L_as (L_nil (thenQ_normal (W_ret (thenQ_ret ?_)))))))))
    refine end_ret [.tmp 4] [(.bool false)] rfl rfl ⟨by kernel_rfl, trivial⟩ ?_
    have e0 : false = eqLs a b := by first | exact (eqLs_yes (sa_end i3 i2 (by omega))).symm | exact (eqLs_no (sa_len (by omega))).symm | exact (eqLs_no (sa_no (by assumption) (by assumption) (of_decide_eq_false (by assumption)))).symm
    exact ⟨congrArg Value.bool e0, hb⟩
  · intro h2
    replace h2 : (a).length = (b).length := by omega
    refine L_nil (thenQ_normal (W_false (by kernel_rfl) (W_skip (thenQ_normal (W_seq (W_seq (W_region (L_as (L_nil (thenQ_normal (W_block ?_)))))))))))
    refine W_loop (fun m s0 w0 => ∃ (i : Nat), (m = a.length - i) ∧ (s0.ds = []) ∧ (s0.f 0 = v_a) ∧ (s0.f 1 = v_b) ∧ (s0.f 5 = (.int .i64 ((i : Nat) : Int))) ∧ (NRd w0 v_a a) ∧ (NRd w0 v_b b) ∧ (Below w.heap.size w w0) ∧ (w.heap.size ≤ w0.heap.size) ∧ (i ≤ a.length) ∧ (a.length = b.length) ∧ ((a.map stripL).take i = (b.map stripL).take i)) _ ⟨0, rfl, by kernel_rfl, by kernel_rfl, by kernel_rfl, by kernel_rfl, p_a, p_b, hb, hs, (Nat.zero_le _), (by omega), rfl⟩ ?_
    rintro m3 s4 w5 ⟨i, hm, hds, f_0, f_1, f_5, p_a, p_b, hb, hs, i1, i2, i3⟩
    refine W_set 0 _ f_0 (W_set 1 _ f_1 (W_set 5 _ f_5 ?_))
    clear f_0 f_1 f_5
    refine W_seq (W_seq (W_region (L_mv (L_mv (L_len 54 47 (a).length v_a rfl Tryd.underlying54 (p_a.1).len (by kernel_rfl) (L_cmp .i64 ((i : Nat) : Int) (((a).length : Nat) : Int) (i < (a).length) rfl (cmpN_lt i ((a).length)) (by kernel_rfl) (by kernel_rfl) ?_ ?_))))))
    · intro h6
      replace h6 : i < (a).length := by omega
      refine L_nil (thenQ_normal (W_true (by kernel_rfl) (W_skip (thenQ_normal (W_seq (W_block (W_seq (W_quiet (by kernel_rfl) (by kernel_rfl) (Lq_mv (Lq_mv ?_))))))))))
      have hz := get_some a i (by omega); obtain ⟨x7, hx8⟩ := hz
      have hz := (p_a.1).at (k := 5) (fun _ => rfl) hx8
      obtain ⟨g9, off10, hl11, hc12⟩ := hz
      have hf_x7 := hfa _ (List.mem_of_getElem? hx8)
      refine Lq_ixaddr (k := .i64) v_a i _ g9 off10 el54 hl11 (by omega) (by kernel_rfl) (by kernel_rfl) ?_
      have p_in13 : Rd w5 encStr (LineV.v x7) (LineV.fs x7) := p_a.inner (List.mem_of_getElem? hx8)
      refine Lq_loadA g9 (off10 + i * 5) [(.int .i64 x7.1), (.int .u8 x7.2.1), (S x7.2.2.1), (LineV.v x7), (S x7.2.2.2.2)] (by kernel_rfl) (fun _ => by kernel_rfl) (fun _ => by kernel_rfl) hc12 (Lq_mv (Lq_mv ?_))
      have hz := get_some b i (by omega); obtain ⟨x14, hx15⟩ := hz
      have hz := (p_b.1).at (k := 5) (fun _ => rfl) hx15
      obtain ⟨g16, off17, hl18, hc19⟩ := hz
      have hf_x14 := hfb _ (List.mem_of_getElem? hx15)
      refine Lq_ixaddr (k := .i64) v_b i _ g16 off17 el54 hl18 (by omega) (by kernel_rfl) (by kernel_rfl) ?_
      have p_in20 : Rd w5 encStr (LineV.v x14) (LineV.fs x14) := p_b.inner (List.mem_of_getElem? hx15)
      refine Lq_loadA g16 (off17 + i * 5) [(.int .i64 x14.1), (.int .u8 x14.2.1), (S x14.2.2.1), (LineV.v x14), (S x14.2.2.2.2)] (by kernel_rfl) (fun _ => by kernel_rfl) (fun _ => by kernel_rfl) hc19 (Lq_call 29 [(Value.agg #[(.int .i64 x7.1), (.int .u8 x7.2.1), (S x7.2.2.1), (LineV.v x7), (S x7.2.2.2.2)]), (Value.agg #[(.int .i64 x14.1), (.int .u8 x14.2.1), (S x14.2.2.1), (LineV.v x14), (S x14.2.2.2.2)])] (.bool (decide (((x7.1, x7.2.1, x7.2.2.1, (LineV.fs x7), x7.2.2.2.2) : LineD) = ((x14.1, x14.2.1, x14.2.2.1, (LineV.fs x14), x14.2.2.2.2) : LineD)))) (fun _ _ => by kernel_rfl) (fun wq hbq => c_furrowref03_Same x7.1 x7.2.1 x7.2.2.1 (LineV.v x7) (LineV.fs x7) x7.2.2.2.2 x14.1 x14.2.1 x14.2.2.1 (LineV.v x14) (LineV.fs x14) x14.2.2.2.2 wq (p_in13.below hbq) (p_in20.below hbq) (by omega) (by omega)) (Lq_put_split (decide (((x7.1, x7.2.1, x7.2.2.1, (LineV.fs x7), x7.2.2.2.2) : LineD) = ((x14.1, x14.2.1, x14.2.2.1, (LineV.fs x14), x14.2.2.2.2) : LineD))) ?_ ?_))
      · intro h21
        refine Lq_not true (by kernel_rfl) (Lq_nil ?_)
        intro w22 hB23
        replace hb := hb.trans (hB23.mono hs)
        replace hs := Nat.le_trans hs (hB23.size)
        replace p_a := p_a.below hB23
        replace p_b := p_b.below hB23
        replace p_in13 := p_in13.below hB23
        replace p_in20 := p_in20.below hB23
        refine thenQ_normal (W_false (by kernel_rfl) (W_skip (blkQ_normal (thenQ_normal (W_region (L_mv (L_addN i 1 (by omega) (by kernel_rfl) (by kernel_rfl) (L_as (L_nil ?_)))))))))
        refine thenQ_normal ⟨_, ?_, (i + 1), rfl, hds, by kernel_rfl, by kernel_rfl, by kernel_rfl, p_a, p_b, hb, hs, ?_, ?_, ?_⟩
        · omega
        · omega
        · exact i2
        · exact sa_step i3 (by assumption) (by assumption) (of_decide_eq_true (by assumption))
      · intro h24
        refine Lq_not false (by kernel_rfl) (Lq_nil ?_)
        intro w25 hB26
        replace hb := hb.trans (hB26.mono hs)
        replace hs := Nat.le_trans hs (hB26.size)
        replace p_a := p_a.below hB26
        replace p_b := p_b.below hB26
        replace p_in13 := p_in13.below hB26
        replace p_in20 := p_in20.below hB26
        refine thenQ_normal (W_true (by kernel_rfl) (W_seq (W_region (L_as (L_nil (thenQ_normal (W_ret (blkQ_ret (thenQ_ret (thenQ_ret (blkQ_ret (thenQ_ret ?_))))))))))))
        refine end_ret [.tmp 4] [(.bool false)] rfl hds ⟨by kernel_rfl, trivial⟩ ?_
        have e0 : false = eqLs a b := by first | exact (eqLs_yes (sa_end i3 i2 (by omega))).symm | exact (eqLs_no (sa_len (by omega))).symm | exact (eqLs_no (sa_no (by assumption) (by assumption) (of_decide_eq_false (by assumption)))).symm
        exact ⟨congrArg Value.bool e0, hb⟩
    · intro h27
      replace h27 : (a).length ≤ i := by omega
      refine L_nil (thenQ_normal (W_false (by kernel_rfl) (W_exit (thenQ_exit (thenQ_exit (blkQ_exit (thenQ_normal (W_seq (W_region (L_as (L_nil (thenQ_normal (W_ret ?_)))))))))))))
      refine end_ret [.tmp 4] [(.bool true)] rfl hds ⟨by kernel_rfl, trivial⟩ ?_
      have e0 : true = eqLs a b := by first | exact (eqLs_yes (sa_end i3 i2 (by omega))).symm | exact (eqLs_no (sa_len (by omega))).symm | exact (eqLs_no (sa_no (by assumption) (by assumption) (of_decide_eq_false (by assumption)))).symm
      exact ⟨congrArg Value.bool e0, hb⟩

set_option maxHeartbeats 4000000 in
set_option maxRecDepth 100000 in
theorem c_furrowlaw03_LinesReads (f : List UInt8) (s : List UInt8) (w : World) (hty : w.cell? ⟨0, 0, none⟩ = some (.iface 116 (.agg #[.pointer (some ⟨4, 56, none⟩)]))) (hs : s.length ≤ 1048576) :
    Calls Tryd.prog 7 #[(S f), (S s)] w (Ret fun v w' => v = (.bool true) ∧ Below w.heap.size w w') := by
  refine enter (args := [(S f), (S s)]) Tryd.func7 rfl (by kernel_rfl : _ = 116) (by kernel_rfl) ?_
  have hb := Below.refl w.heap.size w
  have hs : w.heap.size ≤ w.heap.size := Nat.le_refl _
  refine W_seq (W_region (L_as (L_nil (thenQ_normal (W_seq (W_region (L_mv (L_mv ?_))))))))
  by_cases hq1 : (badL (toldF s)).2 = 0
  · skip
    refine L_call 30 [(S f), (S s)] (by kernel_rfl) (by kernel_rfl) (c_lines_Read2_ok f s _ (by first | omega | assumption) (by first | omega | assumption)) ?_
    rintro _ w3 ⟨l6, q2, rfl, r_q2, hx7, hx8, hx9, hx10, hB4⟩
    have lt_r_q2 := r_q2.lt; have sz_r_q2 := hB4.size
    replace r_q2 := r_q2.base hs
    replace hb := hb.trans (hB4.mono hs)
    replace hs := Nat.le_trans hs (hB4.size)
    refine L_mv (L_run q2 (by kernel_rfl) (by kernel_rfl) (L_run .nilIface (by kernel_rfl) (by kernel_rfl) (L_as (L_as (L_nil (thenQ_normal (W_seq (W_region (L_mv (L_mv (L_call 30 [(S f), (S s)] (by kernel_rfl) (by kernel_rfl) (c_lines_Read2_ok f s _ (by first | omega | assumption) (by exact hq1)) ?_)))))))))))
    rintro _ w12 ⟨l15, q11, rfl, r_q11, hx16, hx17, hx18, hx19, hB13⟩
    have lt_r_q11 := r_q11.lt; have sz_r_q11 := hB13.size
    replace r_q11 := r_q11.base hs
    replace hb := hb.trans (hB13.mono hs)
    replace hs := Nat.le_trans hs (hB13.size)
    replace r_q2 := r_q2.below hB13
    refine L_mv (L_run q11 (by kernel_rfl) (by kernel_rfl) (L_run .nilIface (by kernel_rfl) (by kernel_rfl) (L_as (L_as (L_nil (thenQ_normal (W_seq (W_region (L_mv (L_call 31 [(S s)] (by kernel_rfl) (by kernel_rfl) (c_ref03_Read_ok s _ (by first | omega | assumption) (by exact hq1)) ?_))))))))))
    rintro _ w21 ⟨l24, q20, rfl, r_q20, hx25, hx26, hx27, hB22⟩
    have lt_r_q20 := r_q20.lt; have sz_r_q20 := hB22.size
    replace r_q20 := r_q20.base hs
    replace hb := hb.trans (hB22.mono hs)
    replace hs := Nat.le_trans hs (hB22.size)
    replace r_q2 := r_q2.below hB22
    replace r_q11 := r_q11.below hB22
    refine L_mv (L_run q20 (by kernel_rfl) (by kernel_rfl) (L_run (.int .i64 0) (by kernel_rfl) (by kernel_rfl) (L_run (.int .i64 0) (by kernel_rfl) (by kernel_rfl) (L_as (L_as (L_as (L_nil (thenQ_normal (W_seq (W_seq (W_region (L_mv (L_run (.bool false) (by kernel_rfl) (by kernel_rfl) (L_nil (thenQ_normal (W_false (by kernel_rfl) (W_skip (thenQ_normal (W_seq (W_seq (W_region (L_mv (L_run (.bool false) (by kernel_rfl) (by kernel_rfl) (L_mv (L_want (by kernel_rfl) (L_mv (L_want (by kernel_rfl) (L_run (.bool false) (by kernel_rfl) (by kernel_rfl) (L_pickF (by kernel_rfl) (L_mv (L_want (by kernel_rfl) (L_mv (L_want (by kernel_rfl) (L_mv (L_want (by kernel_rfl) (L_call 33 [q2, q20] (by kernel_rfl) (by kernel_rfl) (c_furrowref03_SameAll q2 l6 q20 l24 _ (r_q2.nrd) (r_q20.nrd) (by first | omega | assumption) (by first | omega | assumption) (by first | omega | assumption) (by first | omega | assumption)) ?_))))))))))))))))))))))))))))))))))))
    rintro _ w28 ⟨rfl, hB29⟩
    replace hb := hb.trans (hB29.mono hs)
    replace hs := Nat.le_trans hs (hB29.size)
    replace r_q2 := r_q2.below hB29
    replace r_q11 := r_q11.below hB29
    replace r_q20 := r_q20.below hB29
    refine put_split (eqLs l6 l24) ?_ ?_
    · intro h31
      refine L_want (by kernel_rfl) (L_not true (by kernel_rfl) (L_pickF (by kernel_rfl) (L_nil (thenQ_normal (W_false (by kernel_rfl) (W_skip (thenQ_normal (W_seq (W_seq (W_region (L_as (L_nil (thenQ_normal (W_block ?_))))))))))))))
      have hz : ∃ K, (∀ g, NOwn q2 l6 g → g < K) ∧ (∀ g, NOwn q11 l15 g → K ≤ g) ∧ (∀ g, NOwn q20 l24 g → K ≤ g) := ⟨_, fun g h => (lt_r_q2 g h).2, fun g h => (lt_r_q11 g h).1, fun g h => Nat.le_trans sz_r_q11 (lt_r_q20 g h).1⟩
      obtain ⟨K, iK0, gk_r_q11, gk_r_q20⟩ := hz
      have sr_a := SRow.of r_q2 hx8; have fs_xs := hx10; have ln_xs := hx9
      refine W_loop (fun m s0 w0 => ∃ (i : Nat) (xs : List LineV) (v_5 : Value), (m = xs.length - i) ∧ (s0.ds = []) ∧ (s0.f 4 = (.bool false)) ∧ (s0.f 7 = q11) ∧ (s0.f 9 = q20) ∧ (s0.f 5 = v_5) ∧ (s0.f 13 = (.int .i64 ((i : Nat) : Int))) ∧ (NRow 9 w0 w.heap.size 47 5 encLine q11 l15) ∧ (NRow 9 w0 w.heap.size 47 5 encLine q20 l24) ∧ (SRow 9 i w0 w.heap.size 47 5 encLine v_5 xs) ∧ (Below w.heap.size w w0) ∧ (w.heap.size ≤ w0.heap.size) ∧ (i ≤ xs.length) ∧ (∀ g, NOwn v_5 xs g → g < K) ∧ (∀ x ∈ xs, x.fs.length ≤ 1073741824) ∧ (xs.length ≤ 1073741824)) _ ⟨0, l6, q2, rfl, by kernel_rfl, by kernel_rfl, by kernel_rfl, by kernel_rfl, by kernel_rfl, by kernel_rfl, r_q11, r_q20, sr_a, hb, hs, (Nat.zero_le _), iK0, fs_xs, ln_xs⟩ ?_
      rintro m32 s33 w34 ⟨i, xs, v_5, hm, hds, f_4, f_7, f_9, f_5, f_13, r_q11, r_q20, r_5, hb, hs, i1, iK, iF, iL⟩
      refine W_set 4 _ f_4 (W_set 7 _ f_7 (W_set 9 _ f_9 (W_set 5 _ f_5 (W_set 13 _ f_13 ?_))))
      clear f_4 f_7 f_9 f_5 f_13
      refine W_seq (W_seq (W_region (L_mv (L_mv (L_len 54 47 (xs).length v_5 rfl Tryd.underlying54 (r_5.rd).len (by kernel_rfl) (L_cmp .i64 ((i : Nat) : Int) (((xs).length : Nat) : Int) (i < (xs).length) rfl (cmpN_lt i ((xs).length)) (by kernel_rfl) (by kernel_rfl) ?_ ?_))))))
      · intro h35
        replace h35 : i < (xs).length := by omega
        refine L_nil (thenQ_normal (W_true (by kernel_rfl) (W_skip (thenQ_normal (W_seq (W_block (W_seq (W_region (L_mv (L_mv ?_))))))))))
        have hz := get_some xs i (by first | omega | assumption); obtain ⟨x36, hx37⟩ := hz
        have hz := (r_5.rd).at (k := 5) (fun _ => rfl) hx37
        obtain ⟨g38, off39, hl40, hc41⟩ := hz
        have hf_x36 := iF _ (List.mem_of_getElem? hx37)
        refine L_ixaddr (k := .i64) v_5 i _ g38 off39 el54 hl40 (by first | omega | assumption) (by kernel_rfl) (by kernel_rfl) (L_run (.pointer (some ⟨g38, ((off39 + i * 5) + 3), none⟩)) (by kernel_rfl) (by kernel_rfl) ?_)
        have r_in42 : Row w34 w.heap.size 9 1 encStr (LineV.v x36) (LineV.fs x36) := r_5.inner_at hx37
        refine L_load g38 ((off39 + i * 5) + 3) (LineV.v x36) (by kernel_rfl) (by kernel_rfl) (hc41 3 _ rfl) (L_call 26 [(LineV.v x36)] (by kernel_rfl) (by kernel_rfl) (c_furrowlaw03_spoil w.heap.size (LineV.v x36) (LineV.fs x36) _ hs r_in42 (by first | omega | assumption)) ?_)
        rintro _ w43 ⟨rfl, hC44⟩
        replace hb := hC44.below hb hs (fun k e => (World.ownsRow.lt r_in42 k e).1)
        replace hs := Nat.le_trans hs hC44.size
        have n_r_q11 := r_q11.ch hC44 (ch_K iK gk_r_q11 (List.mem_of_getElem? hx37))
        have n_r_q20 := r_q20.ch hC44 (ch_K iK gk_r_q20 (List.mem_of_getElem? hx37))
        have n_r_5 := r_5.spoilt hx37 hC44 (by kernel_rfl)
        replace r_q11 := n_r_q11; clear n_r_q11
        replace r_q20 := n_r_q20; clear n_r_q20
        replace r_5 := n_r_5; clear n_r_5
        refine L_nil (thenQ_normal (W_region (L_mv (L_mv ?_))))
        have hz := (r_5.rd).at (k := 5) (fun _ => rfl) hx37
        obtain ⟨g47, off48, hl49, hc50⟩ := hz
        refine L_ixaddr (k := .i64) v_5 i _ g47 off48 el54 hl49 (by first | omega | assumption) (by kernel_rfl) (by kernel_rfl) (L_run (.pointer (some ⟨g47, ((off48 + i * 5) + 4), none⟩)) (by kernel_rfl) (by kernel_rfl) (L_storeRow i 4 g47 off48 x36 (x36.1, x36.2.1, x36.2.2.1, ((LineV.v x36), (LineV.fs x36)), ([115, 112, 111, 105, 108, 116] : List UInt8)) (S ([115, 112, 111, 105, 108, 116] : List UInt8)) r_5.1 (fun _ => rfl) hx37 hl49 (by kernel_rfl) (by kernel_rfl) rfl (by kernel_rfl) (by kernel_rfl) rfl ?_))
        intro w51 hr52 hg53
        replace hb := hb.grown hg53 hs (fun k hk => (World.ownsRow.lt r_5.1 k hk).1)
        replace hs := Nat.le_trans hs (hg53.size)
        have n_r_q11 := r_q11.grown hg53 (nap_K iK gk_r_q11)
        have n_r_q20 := r_q20.grown hg53 (nap_K iK gk_r_q20)
        replace r_5 := r_5.stored hx37 (by omega) hr52 hg53 rfl (by kernel_rfl)
        replace iK := fun g h => iK g (nown_set (x := x36) (y := (x36.1, x36.2.1, x36.2.2.1, ((LineV.v x36), (LineV.fs x36)), ([115, 112, 111, 105, 108, 116] : List UInt8))) hx37 rfl h)
        replace r_q11 := n_r_q11; clear n_r_q11
        replace r_q20 := n_r_q20; clear n_r_q20
        have hx54 : (List.set xs i (x36.1, x36.2.1, x36.2.2.1, ((LineV.v x36), (LineV.fs x36)), ([115, 112, 111, 105, 108, 116] : List UInt8)))[i]? = some (x36.1, x36.2.1, x36.2.2.1, ((LineV.v x36), (LineV.fs x36)), ([115, 112, 111, 105, 108, 116] : List UInt8)) := set_here hx37
        refine L_nil (blkQ_normal (thenQ_normal (W_region (L_mv (L_addN i 1 (by omega) (by kernel_rfl) (by kernel_rfl) (L_as (L_nil ?_)))))))
        refine thenQ_normal ⟨_, ?_, (i + 1), (List.set xs i (x36.1, x36.2.1, x36.2.2.1, ((LineV.v x36), (LineV.fs x36)), ([115, 112, 111, 105, 108, 116] : List UInt8))), v_5, rfl, hds, by kernel_rfl, by kernel_rfl, by kernel_rfl, by kernel_rfl, by kernel_rfl, r_q11, r_q20, r_5, hb, hs, ?_, ?_, ?_, ?_⟩
        · (simp only [List.length_set]; omega)
        · simp only [List.length_set]; omega
        · exact iK
        · first | exact fs_set iF (by assumption) (by rfl) | exact fs_set (fs_set iF (by assumption) (by rfl)) (by assumption) (by rfl) | exact fs_set (fs_set (fs_set iF (by assumption) (by rfl)) (by assumption) (by rfl)) (by assumption) (by rfl)
        · simp only [List.length_set]; omega
      · intro h55
        replace h55 : (xs).length ≤ i := by omega
        refine L_nil (thenQ_normal (W_false (by kernel_rfl) (W_exit (thenQ_exit (thenQ_exit (blkQ_exit (thenQ_normal (W_seq (W_region (L_mv (L_mv (L_call 33 [q11, q20] (by kernel_rfl) (by kernel_rfl) (c_furrowref03_SameAll q11 l15 q20 l24 _ (r_q11.nrd) (r_q20.nrd) (by first | omega | assumption) (by first | omega | assumption) (by first | omega | assumption) (by first | omega | assumption)) ?_))))))))))))
        rintro _ w56 ⟨rfl, hB57⟩
        replace hb := hb.trans (hB57.mono hs)
        replace hs := Nat.le_trans hs (hB57.size)
        replace r_q11 := r_q11.below hB57
        replace r_q20 := r_q20.below hB57
        replace r_5 := r_5.below hB57
        refine put_split (eqLs l15 l24) ?_ ?_
        · intro h59
          refine L_mv (L_want (by kernel_rfl) (L_call 16 [] (by kernel_rfl) (by kernel_rfl) (c_furrowlaw03_awake  _ (gcell_below hty hb)) ?_))
          rintro _ w60 ⟨rfl, hB61⟩
          replace hb := hb.trans (hB61.mono hs)
          replace hs := Nat.le_trans hs (hB61.size)
          replace r_q11 := r_q11.below hB61
          replace r_q20 := r_q20.below hB61
          replace r_5 := r_5.below hB61
          refine L_pickT (by kernel_rfl) (L_as (L_nil (thenQ_normal (W_ret ?_))))
          refine end_ret [.tmp 4] [(.bool true)] rfl hds ⟨by kernel_rfl, trivial⟩ ?_
          have e0 : true = true := by first | rfl | (exfalso; omega) | (simp_all; done)
          exact ⟨congrArg Value.bool e0, hb⟩
        · intro h63
          exfalso; exact (eqLs_of h63) (Eq.trans (b := linesF (toldF s)) (by assumption) (Eq.symm (by assumption)))
    · intro h64
      exfalso; exact (eqLs_of h64) (Eq.trans (b := linesF (toldF s)) (by assumption) (Eq.symm (by assumption)))
  · skip
    refine L_call 30 [(S f), (S s)] (by kernel_rfl) (by kernel_rfl) (c_lines_Read_bad f s _ (by first | omega | assumption) (by first | omega | assumption)) ?_
    rintro _ w65 ⟨cb68, rfl, o_cb68, g_cb68, hB66⟩
    replace g_cb68 := Nat.le_trans hs g_cb68
    replace hb := hb.trans (hB66.mono hs)
    replace hs := Nat.le_trans hs (hB66.size)
    refine L_mv (L_run (.slice none 0 0) (by kernel_rfl) (by kernel_rfl) (L_run (.iface 61 (.pointer (some ⟨cb68, 0, none⟩))) (by kernel_rfl) (by kernel_rfl) (L_as (L_as (L_nil (thenQ_normal (W_seq (W_region (L_mv (L_mv (L_call 30 [(S f), (S s)] (by kernel_rfl) (by kernel_rfl) (c_lines_Read_bad f s _ (by first | omega | assumption) (by exact hq1)) ?_)))))))))))
    rintro _ w69 ⟨cb72, rfl, o_cb72, g_cb72, hB70⟩
    have ne_cb68_cb72 : cb68 ≠ cb72 := by have := (obj_lt o_cb68); omega
    have ne_cb72_cb68 := ne_cb68_cb72.symm
    replace g_cb72 := Nat.le_trans hs g_cb72
    replace hb := hb.trans (hB70.mono hs)
    replace hs := Nat.le_trans hs (hB70.size)
    replace o_cb68 := obj_below o_cb68 hB70
    refine L_mv (L_run (.slice none 0 0) (by kernel_rfl) (by kernel_rfl) (L_run (.iface 61 (.pointer (some ⟨cb72, 0, none⟩))) (by kernel_rfl) (by kernel_rfl) (L_as (L_as (L_nil (thenQ_normal (W_seq (W_region (L_mv (L_call 31 [(S s)] (by kernel_rfl) (by kernel_rfl) (c_ref03_Read_bad s _ (by first | omega | assumption) (by exact hq1)) ?_))))))))))
    rintro _ w73 ⟨rfl, hB74⟩
    replace hb := hb.trans (hB74.mono hs)
    replace hs := Nat.le_trans hs (hB74.size)
    replace o_cb68 := obj_below o_cb68 hB74
    replace o_cb72 := obj_below o_cb72 hB74
    refine L_mv (L_run (.slice none 0 0) (by kernel_rfl) (by kernel_rfl) (L_run (.int .i64 ((badL (toldF s)).1)) (by kernel_rfl) (by kernel_rfl) (L_run (.int .i64 ((badL (toldF s)).2)) (by kernel_rfl) (by kernel_rfl) (L_as (L_as (L_as (L_nil (thenQ_normal (W_seq (W_seq (W_region (L_mv (L_cmp .i64 ((badL (toldF s)).2) 0 ((badL (toldF s)).2 ≠ 0) rfl (cmp_ne ((badL (toldF s)).2) 0) (by kernel_rfl) (by kernel_rfl) ?_ ?_)))))))))))))
    · intro h76
      replace h76 : (badL (toldF s)).2 ≠ 0 := by omega
      refine L_nil (thenQ_normal (W_true (by kernel_rfl) (W_seq (W_region (L_new (fun b => .pointer (some ⟨b, 0, none⟩)) (.cells [(.pointer none)].toArray 61 (0, 0)) (by kernel_rfl) (by kernel_rfl) ?_)))))
      intro b77 w78 hN79
      have ne_cb68_x12 : cb68 ≠ b77 := by have := (obj_lt o_cb68); have := hN79.num; omega
      have ne_x12_cb68 := ne_cb68_x12.symm
      have ne_cb72_x12 : cb72 ≠ b77 := by have := (obj_lt o_cb72); have := hN79.num; omega
      have ne_x12_cb72 := ne_cb72_x12.symm
      have g_x12 : w.heap.size ≤ b77 := by rw [hN79.num]; exact hs
      replace hb := hb.trans (hN79.below.mono hs)
      replace hs := Nat.le_trans hs (hN79.below.size)
      replace o_cb68 := obj_below o_cb68 hN79.below
      replace o_cb72 := obj_below o_cb72 hN79.below
      have o_x12 := hN79.here
      refine L_nil (thenQ_normal (W_seq (W_region (L_mv (L_run (.int .i64 0) (by kernel_rfl) (by kernel_rfl) (L_run (.bool true) (by kernel_rfl) (by kernel_rfl) (L_mv (L_want (by kernel_rfl) (L_mv (L_want (by kernel_rfl) (L_run (.int .i64 0) (by kernel_rfl) (by kernel_rfl) (L_want (by kernel_rfl) (L_run (.bool true) (by kernel_rfl) (by kernel_rfl) (L_pickT (by kernel_rfl) (L_mv (L_want (by kernel_rfl) (L_mv (L_want (by kernel_rfl) (L_run (.bool true) (by kernel_rfl) (by kernel_rfl) (L_pickT (by kernel_rfl) (L_mv (L_want (by kernel_rfl) (L_mv (L_want (by kernel_rfl) (L_run (.iface 63 (.pointer (some ⟨b77, 0, none⟩))) (by kernel_rfl) (by kernel_rfl) (L_want (by kernel_rfl) (L_call 32 [(.iface 61 (.pointer (some ⟨cb68, 0, none⟩))), (.iface 63 (.pointer (some ⟨b77, 0, none⟩)))] (by kernel_rfl) (by kernel_rfl) (as_fk cb68 b77 (.pointer none) _ (gcell_below hty hb) o_x12) ?_)))))))))))))))))))))))))))
      rintro _ w80 ⟨rfl, w81, hB82, hW83⟩
      replace hb := hb.trans (hB82.mono hs)
      replace hs := Nat.le_trans hs (hB82.size)
      replace o_cb68 := obj_below o_cb68 hB82
      replace o_cb72 := obj_below o_cb72 hB82
      replace o_x12 := obj_below o_x12 hB82
      replace hb := hb.trans (hW83.below g_x12)
      replace hs := Nat.le_trans hs (Nat.le_of_eq hW83.size.symm)
      have n_o_cb68 := obj_wrote o_cb68 hW83 (obj_ne o_cb68 o_x12 (by simp))
      have n_o_cb72 := obj_wrote o_cb72 hW83 (obj_ne o_cb72 o_x12 (by simp))
      replace o_cb68 := n_o_cb68; clear n_o_cb68
      replace o_cb72 := n_o_cb72; clear n_o_cb72
      replace o_x12 := hW83.here
      refine L_pickT (by kernel_rfl) (L_mv (L_want (by kernel_rfl) (L_load b77 0 (.pointer (some ⟨cb68, 0, none⟩)) (by kernel_rfl) (by kernel_rfl) (cell_obj o_x12 rfl) (L_want (by kernel_rfl) (L_run (.bool true) (by kernel_rfl) (by kernel_rfl) (L_pickT (by kernel_rfl) (L_mv (L_want (by kernel_rfl) (L_load b77 0 (.pointer (some ⟨cb68, 0, none⟩)) (by kernel_rfl) (by kernel_rfl) (cell_obj o_x12 rfl) (L_want (by kernel_rfl) (L_run (.pointer (some ⟨cb68, 0, none⟩)) (by kernel_rfl) (by kernel_rfl) (L_want (by kernel_rfl) (L_run (.pointer (some ⟨cb68, 0, none⟩)) (by kernel_rfl) (by kernel_rfl) (L_want (by kernel_rfl) (L_load cb68 0 (S f) (by kernel_rfl) (by kernel_rfl) (cell_obj o_cb68 rfl) (L_want (by kernel_rfl) (L_mv (L_want (by kernel_rfl) (L_seq f f rfl (by kernel_rfl) (by kernel_rfl) ?_ ?_)))))))))))))))))))
      · intro h84
        refine L_pickT (by kernel_rfl) (L_mv (L_want (by kernel_rfl) (L_load b77 0 (.pointer (some ⟨cb68, 0, none⟩)) (by kernel_rfl) (by kernel_rfl) (cell_obj o_x12 rfl) (L_want (by kernel_rfl) (L_run (.pointer (some ⟨cb68, 0, none⟩)) (by kernel_rfl) (by kernel_rfl) (L_want (by kernel_rfl) (L_run (.pointer (some ⟨cb68, 1, none⟩)) (by kernel_rfl) (by kernel_rfl) (L_want (by kernel_rfl) (L_load cb68 1 (.int .i64 ((badL (toldF s)).1)) (by kernel_rfl) (by kernel_rfl) (cell_obj o_cb68 rfl) (L_want (by kernel_rfl) (L_mv (L_want (by kernel_rfl) (L_cmp .i64 ((badL (toldF s)).1) ((badL (toldF s)).1) ((badL (toldF s)).1 = (badL (toldF s)).1) rfl (cmp_eq ((badL (toldF s)).1) ((badL (toldF s)).1)) (by kernel_rfl) (by kernel_rfl) ?_ ?_)))))))))))))
        · intro h85
          replace h85 : (badL (toldF s)).1 = (badL (toldF s)).1 := by omega
          refine L_pickT (by kernel_rfl) (L_mv (L_want (by kernel_rfl) (L_load b77 0 (.pointer (some ⟨cb68, 0, none⟩)) (by kernel_rfl) (by kernel_rfl) (cell_obj o_x12 rfl) (L_want (by kernel_rfl) (L_run (.pointer (some ⟨cb68, 0, none⟩)) (by kernel_rfl) (by kernel_rfl) (L_want (by kernel_rfl) (L_run (.pointer (some ⟨cb68, 2, none⟩)) (by kernel_rfl) (by kernel_rfl) (L_want (by kernel_rfl) (L_load cb68 2 (.int .i64 ((badL (toldF s)).2)) (by kernel_rfl) (by kernel_rfl) (cell_obj o_cb68 rfl) (L_want (by kernel_rfl) (L_mv (L_want (by kernel_rfl) (L_cmp .i64 ((badL (toldF s)).2) ((badL (toldF s)).2) ((badL (toldF s)).2 = (badL (toldF s)).2) rfl (cmp_eq ((badL (toldF s)).2) ((badL (toldF s)).2)) (by kernel_rfl) (by kernel_rfl) ?_ ?_)))))))))))))
          · intro h86
            replace h86 : (badL (toldF s)).2 = (badL (toldF s)).2 := by omega
            refine L_pickT (by kernel_rfl) (L_mv (L_want (by kernel_rfl) (L_call 16 [] (by kernel_rfl) (by kernel_rfl) (c_furrowlaw03_awake  _ (gcell_below hty hb)) ?_)))
            rintro _ w87 ⟨rfl, hB88⟩
            replace hb := hb.trans (hB88.mono hs)
            replace hs := Nat.le_trans hs (hB88.size)
            replace o_cb68 := obj_below o_cb68 hB88
            replace o_cb72 := obj_below o_cb72 hB88
            replace o_x12 := obj_below o_x12 hB88
            refine L_pickT (by kernel_rfl) (L_as (L_nil (thenQ_normal (W_ret (thenQ_ret ?_)))))
            refine end_ret [.tmp 4] [(.bool true)] rfl rfl ⟨by kernel_rfl, trivial⟩ ?_
            have e0 : true = true := by first | rfl | (exfalso; omega) | (simp_all; done)
            exact ⟨congrArg Value.bool e0, hb⟩
          · intro h90
            replace h90 : (badL (toldF s)).2 ≠ (badL (toldF s)).2 := by omega
            exact (h90 rfl).elim
        · intro h91
          replace h91 : (badL (toldF s)).1 ≠ (badL (toldF s)).1 := by omega
          exact (h91 rfl).elim
      · intro h92
        exact (h92 rfl).elim
    · intro h93
      replace h93 : (badL (toldF s)).2 = 0 := by omega
      exfalso; omega

end Go.Proofs.YtapndpldphflcaaDoor
