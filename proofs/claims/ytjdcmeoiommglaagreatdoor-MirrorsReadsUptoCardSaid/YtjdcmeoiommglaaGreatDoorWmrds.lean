/- Walks, written by my program walk.py out of the specification mrds.py: each theorem says what one function returns and that it leaves memory as it was. -/
import Derived.Test.YtjdcmeoiommglaaGreatDoorPTxt
import Derived.Test.YtjdcmeoiommglaaGreatDoorWllines
import Derived.Test.YtjdcmeoiommglaaGreatDoorWlscan
import Derived.Test.YtjdcmeoiommglaaGreatDoorWlread
import Derived.Test.YtjdcmeoiommglaaGreatDoorWlref
import Derived.Test.YtjdcmeoiommglaaGreatDoorWmcor
import Derived.Test.YtjdcmeoiommglaaGreatDoorWmmir
import Derived.Test.YtjdcmeoiommglaaGreatDoorWmtpr
import Derived.Test.YtjdcmeoiommglaaGreatDoorWmlaw
import Derived.Test.YtjdcmeoiommglaaGreatDoorFKab
import Derived.Test.YtjdcmeoiommglaaGreatDoorProg
import Derived.Tactics2
namespace Go.Proofs.YtjdcmeoiommglaaGreatDoor
open Go Go.RowKit Go.FK
set_option linter.unusedVariables false
set_option linter.unusedSimpArgs false


set_option maxHeartbeats 4000000 in
set_option maxRecDepth 100000 in
theorem c_ref03_Read_ok (s : List UInt8) (w : World) (hs : s.length ≤ 1073741820) (hok : (badL (toldF s)).2 = 0) :
    Calls Tryz.prog 14 #[(S s)] w (Ret fun v w' => ∃ (l0 : List LineV) (q0 : Value), v = (.tuple #[q0, (.int .i64 0), (.int .i64 0)]) ∧ NRow 9 w' w.heap.size 49 5 encLine q0 l0 ∧ l0.map stripL = linesF (toldF s) ∧ l0.length ≤ 1073741824 ∧ (∀ x ∈ l0, x.fs.length ≤ 1073741824) ∧ Below w.heap.size w w') := by
  refine enter (args := [(S s)]) Tryz.func14 rfl (by kernel_rfl : _ = 41) (by kernel_rfl) ?_
  have hb := Below.refl w.heap.size w
  have hs : w.heap.size ≤ w.heap.size := Nat.le_refl _
  have hpr := pcsR_len s
  refine W_seq (W_region (L_as (L_as (L_as (L_nil (thenQ_normal (W_seq (W_region (L_as (L_nil (thenQ_normal (W_seq (W_seq (W_region (L_mv (L_call 31 [(S s)] (by kernel_rfl) (by kernel_rfl) (c_furrowref03_Pieces s _ (by first | omega | (simp only [List.length_drop, List.length_take]; omega))) ?_))))))))))))))))
  rintro q1 w2 ⟨_, rfl, r_q1, hB3⟩
  replace r_q1 := r_q1.base hs
  replace hb := hb.trans (hB3.mono hs)
  replace hs := Nat.le_trans hs (hB3.size)
  refine L_len 93 96 (pcsR s).length q1 rfl Tryz.underlying93 (r_q1.rd).len (by kernel_rfl) (L_mv (L_nil (thenQ_normal (W_block ?_))))
  refine W_loop (fun m s0 w0 => ∃ (k : Nat) (acc : List LineV) (v_5 : Value), (m = (pcsR s).length - k) ∧ (s0.ds = []) ∧ (s0.f 0 = (S s)) ∧ (s0.f 11 = q1) ∧ (s0.f 12 = (.int .i64 (((pcsR s).length : Nat) : Int))) ∧ (s0.f 5 = v_5) ∧ (s0.f 13 = (.int .i64 ((k : Nat) : Int))) ∧ (Row w0 w.heap.size 96 3 encPcN q1 (pcsR s)) ∧ (NRow 9 w0 w.heap.size 49 5 encLine v_5 acc) ∧ (Below w.heap.size w w0) ∧ (w.heap.size ≤ w0.heap.size) ∧ (k ≤ (pcsR s).length) ∧ (acc.length = k) ∧ (acc.map stripL = linesF ((toldF s).take k))) _ ⟨0, [], (.slice none 0 0), rfl, by kernel_rfl, by kernel_rfl, by kernel_rfl, by kernel_rfl, by kernel_rfl, by kernel_rfl, r_q1, NRow.nil _ _ _ _ _ _, hb, hs, (Nat.zero_le _), rfl, rfl⟩ ?_
  rintro m5 s6 w7 ⟨k, acc, v_5, hm, hds, f_0, f_11, f_12, f_5, f_13, r_q1, r_5, hb, hs, i1, i2, i3⟩
  refine W_set 0 _ f_0 (W_set 11 _ f_11 (W_set 12 _ f_12 (W_set 5 _ f_5 (W_set 13 _ f_13 ?_))))
  clear f_0 f_11 f_12 f_5 f_13
  refine W_seq (W_region (L_cmp .i64 ((k : Nat) : Int) (((pcsR s).length : Nat) : Int) (k < (pcsR s).length) rfl (cmpN_lt k ((pcsR s).length)) (by kernel_rfl) (by kernel_rfl) ?_ ?_))
  · intro h8
    replace h8 : k < (pcsR s).length := by omega
    refine L_nil (thenQ_normal (W_seq (W_true (by kernel_rfl) (W_skip (thenQ_normal (W_seq (W_block (W_seq (W_region (L_mv ?_))))))))))
    have hz := get_some (pcsR s) k (by first | omega | (simp only [List.length_drop, List.length_take]; omega)); obtain ⟨x9, hx10⟩ := hz
    have hz := (r_q1.rd).at (k := 3) (fun _ => rfl) hx10
    obtain ⟨g11, off12, hl13, hc14⟩ := hz
    have hp_x9 := pcsR_ok hx10
    have hl_x9 : (List.drop x9.1 (List.take x9.2.1 s)).length = x9.2.1 - x9.1 := by simp only [List.length_drop, List.length_take]; omega
    have hz_x9 := ok_at hok hx10
    refine L_ixaddr (k := .i64) q1 k _ g11 off12 el93 hl13 (by first | omega | (simp only [List.length_drop, List.length_take]; omega)) (by kernel_rfl) (by kernel_rfl) (L_loadA g11 (off12 + k * 3) [(.int .i64 ((x9.1 : Nat) : Int)), (.int .i64 ((x9.2.1 : Nat) : Int)), (.int .i64 ((x9.2.2 : Nat) : Int))] (by kernel_rfl) (by kernel_rfl) (by kernel_rfl) hc14 (L_new (fun b => .pointer (some ⟨b, 0, none⟩)) (.cells [(.int .i64 0), (.int .i64 0), (.int .i64 0)].toArray 96 (0, 0)) (by kernel_rfl) (by kernel_rfl) ?_))
    intro b15 w16 hN17
    have g_x7 : w.heap.size ≤ b15 := by rw [hN17.num]; exact hs
    have nb_o_x7_r_q1 := r_q1.new_ne hN17
    replace hb := hb.trans (hN17.below.mono hs)
    replace hs := Nat.le_trans hs (hN17.below.size)
    replace r_q1 := r_q1.below hN17.below
    replace r_5 := r_5.below hN17.below
    have o_x7 := hN17.here
    refine L_as (L_storeA b15 0 [(.int .i64 ((x9.1 : Nat) : Int)), (.int .i64 ((x9.2.1 : Nat) : Int)), (.int .i64 ((x9.2.2 : Nat) : Int))] [(.int .i64 0), (.int .i64 0), (.int .i64 0)] [(.int .i64 ((x9.1 : Nat) : Int)), (.int .i64 ((x9.2.1 : Nat) : Int)), (.int .i64 ((x9.2.2 : Nat) : Int))] 96 (by kernel_rfl) (by kernel_rfl) rfl (by kernel_rfl) o_x7 (by kernel_rfl) rfl ?_)
    intro w18 hW19
    replace hb := hb.trans (hW19.below g_x7)
    replace hs := Nat.le_trans hs (Nat.le_of_eq hW19.size.symm)
    have n_r_q1 := r_q1.wrote hW19 nb_o_x7_r_q1
    have n_r_5 := r_5.wrote hW19 (r_5.ne o_x7 (by simp))
    replace r_q1 := n_r_q1; clear n_r_q1
    replace r_5 := n_r_5; clear n_r_5
    replace o_x7 := hW19.here
    refine L_nil (thenQ_normal (W_seq (W_region (L_mv (L_addN k 1 (by omega) (by kernel_rfl) (by kernel_rfl) (L_mv (L_run (.pointer (some ⟨b15, 0, none⟩)) (by kernel_rfl) (by kernel_rfl) (L_load b15 0 (.int .i64 ((x9.1 : Nat) : Int)) (by kernel_rfl) (by kernel_rfl) (cell_obj o_x7 rfl) (L_run (.pointer (some ⟨b15, 1, none⟩)) (by kernel_rfl) (by kernel_rfl) (L_load b15 1 (.int .i64 ((x9.2.1 : Nat) : Int)) (by kernel_rfl) (by kernel_rfl) (cell_obj o_x7 rfl) (L_sslice s x9.1 x9.2.1 Tryz.underlying9 (by kernel_rfl) ⟨.i64, by kernel_rfl⟩ ⟨.i64, by kernel_rfl⟩ (by first | omega | (simp only [List.length_drop, List.length_take]; omega)) (by first | omega | (simp only [List.length_drop, List.length_take]; omega)) (L_call 32 [(.int .i64 (((k + 1) : Nat) : Int)), (S (List.drop x9.1 (List.take x9.2.1 s)))] (by kernel_rfl) (by kernel_rfl) (c_furrowref03_Scan (((k + 1) : Nat) : Int) (List.drop x9.1 (List.take x9.2.1 s)) _ (by first | omega | (simp only [List.length_drop, List.length_take]; omega))) ?_))))))))))))
    rintro _ w21 ⟨q20, rfl, r_q20, hB22⟩
    replace r_q20 := r_q20.base hs
    replace hb := hb.trans (hB22.mono hs)
    replace hs := Nat.le_trans hs (hB22.size)
    replace o_x7 := obj_below o_x7 hB22
    replace r_q1 := r_q1.below hB22
    replace r_5 := r_5.below hB22
    have := scan_err (((k + 1) : Nat) : Int) (List.drop x9.1 (List.take x9.2.1 s))
    refine L_mv (L_run (Value.agg #[(.int .i64 ((scanF (((k + 1) : Nat) : Int) (List.drop x9.1 (List.take x9.2.1 s))).1.1)), (.int .u8 ((scanF (((k + 1) : Nat) : Int) (List.drop x9.1 (List.take x9.2.1 s))).1.2.1)), (S ((scanF (((k + 1) : Nat) : Int) (List.drop x9.1 (List.take x9.2.1 s))).1.2.2.1)), q20, (S ((scanF (((k + 1) : Nat) : Int) (List.drop x9.1 (List.take x9.2.1 s))).1.2.2.2.2))]) (by kernel_rfl) (by kernel_rfl) (L_run (.int .i64 ((scanF (((k + 1) : Nat) : Int) (List.drop x9.1 (List.take x9.2.1 s))).2)) (by kernel_rfl) (by kernel_rfl) (L_new (fun b => .pointer (some ⟨b, 0, none⟩)) (.cells [(.int .i64 0), (.int .u8 0), (S ([] : List UInt8)), (.slice none 0 0), (S ([] : List UInt8))].toArray 49 (0, 0)) (by kernel_rfl) (by kernel_rfl) ?_)))
    intro b24 w25 hN26
    have ne_x7_x8 : b15 ≠ b24 := by have := (obj_lt o_x7); have := hN26.num; omega
    have ne_x8_x7 := ne_x7_x8.symm
    have g_x8 : w.heap.size ≤ b24 := by rw [hN26.num]; exact hs
    have nb_o_x8_r_5 := r_5.new_ne hN26
    replace hb := hb.trans (hN26.below.mono hs)
    replace hs := Nat.le_trans hs (hN26.below.size)
    replace o_x7 := obj_below o_x7 hN26.below
    replace r_q1 := r_q1.below hN26.below
    replace r_5 := r_5.below hN26.below
    replace r_q20 := r_q20.below hN26.below
    have o_x8 := hN26.here
    refine L_storeA b24 0 [(.int .i64 ((scanF (((k + 1) : Nat) : Int) (List.drop x9.1 (List.take x9.2.1 s))).1.1)), (.int .u8 ((scanF (((k + 1) : Nat) : Int) (List.drop x9.1 (List.take x9.2.1 s))).1.2.1)), (S ((scanF (((k + 1) : Nat) : Int) (List.drop x9.1 (List.take x9.2.1 s))).1.2.2.1)), q20, (S ((scanF (((k + 1) : Nat) : Int) (List.drop x9.1 (List.take x9.2.1 s))).1.2.2.2.2))] [(.int .i64 0), (.int .u8 0), (S ([] : List UInt8)), (.slice none 0 0), (S ([] : List UInt8))] [(.int .i64 ((scanF (((k + 1) : Nat) : Int) (List.drop x9.1 (List.take x9.2.1 s))).1.1)), (.int .u8 ((scanF (((k + 1) : Nat) : Int) (List.drop x9.1 (List.take x9.2.1 s))).1.2.1)), (S ((scanF (((k + 1) : Nat) : Int) (List.drop x9.1 (List.take x9.2.1 s))).1.2.2.1)), q20, (S ((scanF (((k + 1) : Nat) : Int) (List.drop x9.1 (List.take x9.2.1 s))).1.2.2.2.2))] 49 (by kernel_rfl) (by kernel_rfl) (allc rfl (allc rfl (allc rfl (allc r_q20.one (allc rfl rfl))))) (by kernel_rfl) o_x8 (by kernel_rfl) rfl ?_
    intro w27 hW28
    replace hb := hb.trans (hW28.below g_x8)
    replace hs := Nat.le_trans hs (Nat.le_of_eq hW28.size.symm)
    have n_o_x7 := obj_wrote o_x7 hW28 (obj_ne o_x7 o_x8 (by simp))
    have n_r_q1 := r_q1.wrote hW28 (r_q1.ne o_x8 (by simp))
    have n_r_5 := r_5.wrote hW28 nb_o_x8_r_5
    have n_r_q20 := r_q20.wrote hW28 (r_q20.ne o_x8 (by simp))
    replace o_x7 := n_o_x7; clear n_o_x7
    replace r_q1 := n_r_q1; clear n_r_q1
    replace r_5 := n_r_5; clear n_r_5
    replace r_q20 := n_r_q20; clear n_r_q20
    replace o_x8 := hW28.here
    refine L_as (L_nil (thenQ_normal (W_seq (W_seq (W_region (L_mv (L_cmp .i64 ((scanF (((k + 1) : Nat) : Int) (List.drop x9.1 (List.take x9.2.1 s))).2) 0 ((scanF (((k + 1) : Nat) : Int) (List.drop x9.1 (List.take x9.2.1 s))).2 ≠ 0) rfl (cmp_ne ((scanF (((k + 1) : Nat) : Int) (List.drop x9.1 (List.take x9.2.1 s))).2) 0) (by kernel_rfl) (by kernel_rfl) ?_ ?_)))))))
    · intro h29
      replace h29 : (scanF (((k + 1) : Nat) : Int) (List.drop x9.1 (List.take x9.2.1 s))).2 ≠ 0 := by omega
      exfalso; omega
    · intro h30
      replace h30 : (scanF (((k + 1) : Nat) : Int) (List.drop x9.1 (List.take x9.2.1 s))).2 = 0 := by omega
      refine L_nil (thenQ_normal (W_false (by kernel_rfl) (W_skip (thenQ_normal (W_region (L_mv (L_loadA b24 0 [(.int .i64 ((scanF (((k + 1) : Nat) : Int) (List.drop x9.1 (List.take x9.2.1 s))).1.1)), (.int .u8 ((scanF (((k + 1) : Nat) : Int) (List.drop x9.1 (List.take x9.2.1 s))).1.2.1)), (S ((scanF (((k + 1) : Nat) : Int) (List.drop x9.1 (List.take x9.2.1 s))).1.2.2.1)), q20, (S ((scanF (((k + 1) : Nat) : Int) (List.drop x9.1 (List.take x9.2.1 s))).1.2.2.2.2))] (by kernel_rfl) (by kernel_rfl) (by kernel_rfl) (cells_at o_x8 0 (by kernel_rfl)) (L_app el43 w.heap.size v_5 acc ((scanF (((k + 1) : Nat) : Int) (List.drop x9.1 (List.take x9.2.1 s))).1.1, (scanF (((k + 1) : Nat) : Int) (List.drop x9.1 (List.take x9.2.1 s))).1.2.1, (scanF (((k + 1) : Nat) : Int) (List.drop x9.1 (List.take x9.2.1 s))).1.2.2.1, (q20, (scanF (((k + 1) : Nat) : Int) (List.drop x9.1 (List.take x9.2.1 s))).1.2.2.2.1), (scanF (((k + 1) : Nat) : Int) (List.drop x9.1 (List.take x9.2.1 s))).1.2.2.2.2) hs r_5.1 (by omega) (by kernel_rfl) rfl (allc rfl (allc rfl (allc rfl (allc r_q20.one (allc rfl rfl))))) (by kernel_rfl) rfl (by kernel_rfl) (by kernel_rfl) ?_))))))))
      intro v31 w32 hr33 hg34 how35
      have nc_o_x8 := ownb_app how35 (fun e => nb_o_x8_r_5 (.inl e)) (obj_lt o_x8)
      have nc_o_x8 := nbN_push (x := ((scanF (((k + 1) : Nat) : Int) (List.drop x9.1 (List.take x9.2.1 s))).1.1, (scanF (((k + 1) : Nat) : Int) (List.drop x9.1 (List.take x9.2.1 s))).1.2.1, (scanF (((k + 1) : Nat) : Int) (List.drop x9.1 (List.take x9.2.1 s))).1.2.2.1, (q20, (scanF (((k + 1) : Nat) : Int) (List.drop x9.1 (List.take x9.2.1 s))).1.2.2.2.1), (scanF (((k + 1) : Nat) : Int) (List.drop x9.1 (List.take x9.2.1 s))).1.2.2.2.2)) nb_o_x8_r_5 nc_o_x8 (r_q20.ne o_x8 (by simp))
      replace hb := hb.grown hg34 hs (fun k hk => (World.ownsRow.lt r_5.1 k hk).1)
      replace hs := Nat.le_trans hs (hg34.size)
      have n_o_x7 := obj_grown o_x7 hg34 (r_5.1.ne o_x7 (by simp))
      have n_o_x8 := obj_grown o_x8 hg34 (fun e => nb_o_x8_r_5 (.inl e))
      have n_r_q1 := r_q1.grown hg34 (r_q1.apart r_5.1 (by kernel_rfl))
      have n_r_q20 := r_q20.grown hg34 (r_q20.apart r_5.1 (by kernel_rfl))
      replace o_x7 := n_o_x7; clear n_o_x7
      replace o_x8 := n_o_x8; clear n_o_x8
      replace r_q1 := n_r_q1; clear n_r_q1
      replace r_q20 := n_r_q20; clear n_r_q20
      have nb_o_x8_r_5 := nc_o_x8
      replace r_5 := NRow.push r_5 hg34 hr33 r_q20 (by kernel_rfl)
      refine L_as (L_nil (blkQ_normal (thenQ_normal (W_region (L_addN k 1 (by omega) (by kernel_rfl) (by kernel_rfl) (L_mv (L_nil ?_)))))))
      refine thenQ_normal ⟨_, ?_, (k + 1), (acc ++ [((scanF (((k + 1) : Nat) : Int) (List.drop x9.1 (List.take x9.2.1 s))).1.1, (scanF (((k + 1) : Nat) : Int) (List.drop x9.1 (List.take x9.2.1 s))).1.2.1, (scanF (((k + 1) : Nat) : Int) (List.drop x9.1 (List.take x9.2.1 s))).1.2.2.1, (q20, (scanF (((k + 1) : Nat) : Int) (List.drop x9.1 (List.take x9.2.1 s))).1.2.2.2.1), (scanF (((k + 1) : Nat) : Int) (List.drop x9.1 (List.take x9.2.1 s))).1.2.2.2.2)]), v31, rfl, hds, by kernel_rfl, by kernel_rfl, by kernel_rfl, by kernel_rfl, by kernel_rfl, r_q1, r_5, hb, hs, ?_, ?_, ?_⟩
      · omega
      · omega
      · simp only [List.length_append, List.length_cons, List.length_nil]; omega
      · exact lines_at (by assumption) i3 rfl
  · intro h36
    replace h36 : (pcsR s).length ≤ k := by omega
    refine L_nil (thenQ_normal (W_seq (W_false (by kernel_rfl) (W_exit (thenQ_exit (thenQ_exit (blkQ_exit (thenQ_normal (W_seq (W_region (L_mv (L_as (L_as (L_as (L_nil (thenQ_normal (W_ret ?_)))))))))))))))))
    refine end_ret [.tmp 2, .tmp 3, .tmp 4] [v_5, (.int .i64 0), (.int .i64 0)] rfl hds ⟨by kernel_rfl, by kernel_rfl, by kernel_rfl, trivial⟩ ?_
    have hE : (0 = 0) ∧ (0 = 0) := ⟨(by first | rfl | (simp_all; done) | omega), (by first | rfl | (simp_all; done) | omega)⟩
    exact ⟨acc, v_5, tup3 (rfl) (congrArg (fun x : Nat => Value.int .i64 (x : Int)) hE.1) (congrArg (fun x : Nat => Value.int .i64 (x : Int)) hE.2), r_5, (by rw [i3, told_take (by omega)]), (by (have hz := lines_len i3; rw [told_take (by omega)] at hz; have hy := told_len s; omega)), (by (rw [told_take (by omega)] at i3; exact fs_len i3 (by omega))), hb⟩

set_option maxHeartbeats 4000000 in
set_option maxRecDepth 100000 in
theorem c_ref03_Read_bad (s : List UInt8) (w : World) (hs : s.length ≤ 1073741820) (hbad : (badL (toldF s)).2 ≠ 0) :
    Calls Tryz.prog 14 #[(S s)] w (Ret fun v w' => v = (.tuple #[(.slice none 0 0), (.int .i64 ((badL (toldF s)).1)), (.int .i64 ((badL (toldF s)).2))]) ∧ Below w.heap.size w w') := by
  refine enter (args := [(S s)]) Tryz.func14 rfl (by kernel_rfl : _ = 41) (by kernel_rfl) ?_
  have hb := Below.refl w.heap.size w
  have hs : w.heap.size ≤ w.heap.size := Nat.le_refl _
  have hpr := pcsR_len s
  refine W_seq (W_region (L_as (L_as (L_as (L_nil (thenQ_normal (W_seq (W_region (L_as (L_nil (thenQ_normal (W_seq (W_seq (W_region (L_mv (L_call 31 [(S s)] (by kernel_rfl) (by kernel_rfl) (c_furrowref03_Pieces s _ (by first | omega | (simp only [List.length_drop, List.length_take]; omega))) ?_))))))))))))))))
  rintro q1 w2 ⟨_, rfl, r_q1, hB3⟩
  replace r_q1 := r_q1.base hs
  replace hb := hb.trans (hB3.mono hs)
  replace hs := Nat.le_trans hs (hB3.size)
  refine L_len 93 96 (pcsR s).length q1 rfl Tryz.underlying93 (r_q1.rd).len (by kernel_rfl) (L_mv (L_nil (thenQ_normal (W_block ?_))))
  refine W_loop (fun m s0 w0 => ∃ (k : Nat) (acc : List LineV) (v_5 : Value), (m = (pcsR s).length - k) ∧ (s0.ds = []) ∧ (s0.f 0 = (S s)) ∧ (s0.f 11 = q1) ∧ (s0.f 12 = (.int .i64 (((pcsR s).length : Nat) : Int))) ∧ (s0.f 5 = v_5) ∧ (s0.f 13 = (.int .i64 ((k : Nat) : Int))) ∧ (Row w0 w.heap.size 96 3 encPcN q1 (pcsR s)) ∧ (NRow 9 w0 w.heap.size 49 5 encLine v_5 acc) ∧ (Below w.heap.size w w0) ∧ (w.heap.size ≤ w0.heap.size) ∧ (k ≤ (pcsR s).length) ∧ (acc.length = k) ∧ ((badL ((toldF s).take k)).2 = 0)) _ ⟨0, [], (.slice none 0 0), rfl, by kernel_rfl, by kernel_rfl, by kernel_rfl, by kernel_rfl, by kernel_rfl, by kernel_rfl, r_q1, NRow.nil _ _ _ _ _ _, hb, hs, (Nat.zero_le _), rfl, rfl⟩ ?_
  rintro m5 s6 w7 ⟨k, acc, v_5, hm, hds, f_0, f_11, f_12, f_5, f_13, r_q1, r_5, hb, hs, i1, i2, i3⟩
  refine W_set 0 _ f_0 (W_set 11 _ f_11 (W_set 12 _ f_12 (W_set 5 _ f_5 (W_set 13 _ f_13 ?_))))
  clear f_0 f_11 f_12 f_5 f_13
  refine W_seq (W_region (L_cmp .i64 ((k : Nat) : Int) (((pcsR s).length : Nat) : Int) (k < (pcsR s).length) rfl (cmpN_lt k ((pcsR s).length)) (by kernel_rfl) (by kernel_rfl) ?_ ?_))
  · intro h8
    replace h8 : k < (pcsR s).length := by omega
    refine L_nil (thenQ_normal (W_seq (W_true (by kernel_rfl) (W_skip (thenQ_normal (W_seq (W_block (W_seq (W_region (L_mv ?_))))))))))
    have hz := get_some (pcsR s) k (by first | omega | (simp only [List.length_drop, List.length_take]; omega)); obtain ⟨x9, hx10⟩ := hz
    have hz := (r_q1.rd).at (k := 3) (fun _ => rfl) hx10
    obtain ⟨g11, off12, hl13, hc14⟩ := hz
    have hp_x9 := pcsR_ok hx10
    have hl_x9 : (List.drop x9.1 (List.take x9.2.1 s)).length = x9.2.1 - x9.1 := by simp only [List.length_drop, List.length_take]; omega
    refine L_ixaddr (k := .i64) q1 k _ g11 off12 el93 hl13 (by first | omega | (simp only [List.length_drop, List.length_take]; omega)) (by kernel_rfl) (by kernel_rfl) (L_loadA g11 (off12 + k * 3) [(.int .i64 ((x9.1 : Nat) : Int)), (.int .i64 ((x9.2.1 : Nat) : Int)), (.int .i64 ((x9.2.2 : Nat) : Int))] (by kernel_rfl) (by kernel_rfl) (by kernel_rfl) hc14 (L_new (fun b => .pointer (some ⟨b, 0, none⟩)) (.cells [(.int .i64 0), (.int .i64 0), (.int .i64 0)].toArray 96 (0, 0)) (by kernel_rfl) (by kernel_rfl) ?_))
    intro b15 w16 hN17
    have g_x7 : w.heap.size ≤ b15 := by rw [hN17.num]; exact hs
    have nb_o_x7_r_q1 := r_q1.new_ne hN17
    replace hb := hb.trans (hN17.below.mono hs)
    replace hs := Nat.le_trans hs (hN17.below.size)
    replace r_q1 := r_q1.below hN17.below
    replace r_5 := r_5.below hN17.below
    have o_x7 := hN17.here
    refine L_as (L_storeA b15 0 [(.int .i64 ((x9.1 : Nat) : Int)), (.int .i64 ((x9.2.1 : Nat) : Int)), (.int .i64 ((x9.2.2 : Nat) : Int))] [(.int .i64 0), (.int .i64 0), (.int .i64 0)] [(.int .i64 ((x9.1 : Nat) : Int)), (.int .i64 ((x9.2.1 : Nat) : Int)), (.int .i64 ((x9.2.2 : Nat) : Int))] 96 (by kernel_rfl) (by kernel_rfl) rfl (by kernel_rfl) o_x7 (by kernel_rfl) rfl ?_)
    intro w18 hW19
    replace hb := hb.trans (hW19.below g_x7)
    replace hs := Nat.le_trans hs (Nat.le_of_eq hW19.size.symm)
    have n_r_q1 := r_q1.wrote hW19 nb_o_x7_r_q1
    have n_r_5 := r_5.wrote hW19 (r_5.ne o_x7 (by simp))
    replace r_q1 := n_r_q1; clear n_r_q1
    replace r_5 := n_r_5; clear n_r_5
    replace o_x7 := hW19.here
    refine L_nil (thenQ_normal (W_seq (W_region (L_mv (L_addN k 1 (by omega) (by kernel_rfl) (by kernel_rfl) (L_mv (L_run (.pointer (some ⟨b15, 0, none⟩)) (by kernel_rfl) (by kernel_rfl) (L_load b15 0 (.int .i64 ((x9.1 : Nat) : Int)) (by kernel_rfl) (by kernel_rfl) (cell_obj o_x7 rfl) (L_run (.pointer (some ⟨b15, 1, none⟩)) (by kernel_rfl) (by kernel_rfl) (L_load b15 1 (.int .i64 ((x9.2.1 : Nat) : Int)) (by kernel_rfl) (by kernel_rfl) (cell_obj o_x7 rfl) (L_sslice s x9.1 x9.2.1 Tryz.underlying9 (by kernel_rfl) ⟨.i64, by kernel_rfl⟩ ⟨.i64, by kernel_rfl⟩ (by first | omega | (simp only [List.length_drop, List.length_take]; omega)) (by first | omega | (simp only [List.length_drop, List.length_take]; omega)) (L_call 32 [(.int .i64 (((k + 1) : Nat) : Int)), (S (List.drop x9.1 (List.take x9.2.1 s)))] (by kernel_rfl) (by kernel_rfl) (c_furrowref03_Scan (((k + 1) : Nat) : Int) (List.drop x9.1 (List.take x9.2.1 s)) _ (by first | omega | (simp only [List.length_drop, List.length_take]; omega))) ?_))))))))))))
    rintro _ w21 ⟨q20, rfl, r_q20, hB22⟩
    replace r_q20 := r_q20.base hs
    replace hb := hb.trans (hB22.mono hs)
    replace hs := Nat.le_trans hs (hB22.size)
    replace o_x7 := obj_below o_x7 hB22
    replace r_q1 := r_q1.below hB22
    replace r_5 := r_5.below hB22
    have := scan_err (((k + 1) : Nat) : Int) (List.drop x9.1 (List.take x9.2.1 s))
    refine L_mv (L_run (Value.agg #[(.int .i64 ((scanF (((k + 1) : Nat) : Int) (List.drop x9.1 (List.take x9.2.1 s))).1.1)), (.int .u8 ((scanF (((k + 1) : Nat) : Int) (List.drop x9.1 (List.take x9.2.1 s))).1.2.1)), (S ((scanF (((k + 1) : Nat) : Int) (List.drop x9.1 (List.take x9.2.1 s))).1.2.2.1)), q20, (S ((scanF (((k + 1) : Nat) : Int) (List.drop x9.1 (List.take x9.2.1 s))).1.2.2.2.2))]) (by kernel_rfl) (by kernel_rfl) (L_run (.int .i64 ((scanF (((k + 1) : Nat) : Int) (List.drop x9.1 (List.take x9.2.1 s))).2)) (by kernel_rfl) (by kernel_rfl) (L_new (fun b => .pointer (some ⟨b, 0, none⟩)) (.cells [(.int .i64 0), (.int .u8 0), (S ([] : List UInt8)), (.slice none 0 0), (S ([] : List UInt8))].toArray 49 (0, 0)) (by kernel_rfl) (by kernel_rfl) ?_)))
    intro b24 w25 hN26
    have ne_x7_x8 : b15 ≠ b24 := by have := (obj_lt o_x7); have := hN26.num; omega
    have ne_x8_x7 := ne_x7_x8.symm
    have g_x8 : w.heap.size ≤ b24 := by rw [hN26.num]; exact hs
    have nb_o_x8_r_5 := r_5.new_ne hN26
    replace hb := hb.trans (hN26.below.mono hs)
    replace hs := Nat.le_trans hs (hN26.below.size)
    replace o_x7 := obj_below o_x7 hN26.below
    replace r_q1 := r_q1.below hN26.below
    replace r_5 := r_5.below hN26.below
    replace r_q20 := r_q20.below hN26.below
    have o_x8 := hN26.here
    refine L_storeA b24 0 [(.int .i64 ((scanF (((k + 1) : Nat) : Int) (List.drop x9.1 (List.take x9.2.1 s))).1.1)), (.int .u8 ((scanF (((k + 1) : Nat) : Int) (List.drop x9.1 (List.take x9.2.1 s))).1.2.1)), (S ((scanF (((k + 1) : Nat) : Int) (List.drop x9.1 (List.take x9.2.1 s))).1.2.2.1)), q20, (S ((scanF (((k + 1) : Nat) : Int) (List.drop x9.1 (List.take x9.2.1 s))).1.2.2.2.2))] [(.int .i64 0), (.int .u8 0), (S ([] : List UInt8)), (.slice none 0 0), (S ([] : List UInt8))] [(.int .i64 ((scanF (((k + 1) : Nat) : Int) (List.drop x9.1 (List.take x9.2.1 s))).1.1)), (.int .u8 ((scanF (((k + 1) : Nat) : Int) (List.drop x9.1 (List.take x9.2.1 s))).1.2.1)), (S ((scanF (((k + 1) : Nat) : Int) (List.drop x9.1 (List.take x9.2.1 s))).1.2.2.1)), q20, (S ((scanF (((k + 1) : Nat) : Int) (List.drop x9.1 (List.take x9.2.1 s))).1.2.2.2.2))] 49 (by kernel_rfl) (by kernel_rfl) (allc rfl (allc rfl (allc rfl (allc r_q20.one (allc rfl rfl))))) (by kernel_rfl) o_x8 (by kernel_rfl) rfl ?_
    intro w27 hW28
    replace hb := hb.trans (hW28.below g_x8)
    replace hs := Nat.le_trans hs (Nat.le_of_eq hW28.size.symm)
    have n_o_x7 := obj_wrote o_x7 hW28 (obj_ne o_x7 o_x8 (by simp))
    have n_r_q1 := r_q1.wrote hW28 (r_q1.ne o_x8 (by simp))
    have n_r_5 := r_5.wrote hW28 nb_o_x8_r_5
    have n_r_q20 := r_q20.wrote hW28 (r_q20.ne o_x8 (by simp))
    replace o_x7 := n_o_x7; clear n_o_x7
    replace r_q1 := n_r_q1; clear n_r_q1
    replace r_5 := n_r_5; clear n_r_5
    replace r_q20 := n_r_q20; clear n_r_q20
    replace o_x8 := hW28.here
    refine L_as (L_nil (thenQ_normal (W_seq (W_seq (W_region (L_mv (L_cmp .i64 ((scanF (((k + 1) : Nat) : Int) (List.drop x9.1 (List.take x9.2.1 s))).2) 0 ((scanF (((k + 1) : Nat) : Int) (List.drop x9.1 (List.take x9.2.1 s))).2 ≠ 0) rfl (cmp_ne ((scanF (((k + 1) : Nat) : Int) (List.drop x9.1 (List.take x9.2.1 s))).2) 0) (by kernel_rfl) (by kernel_rfl) ?_ ?_)))))))
    · intro h29
      replace h29 : (scanF (((k + 1) : Nat) : Int) (List.drop x9.1 (List.take x9.2.1 s))).2 ≠ 0 := by omega
      refine L_nil (thenQ_normal (W_true (by kernel_rfl) (W_seq (W_region (L_mv (L_addN k 1 (by omega) (by kernel_rfl) (by kernel_rfl) (L_mv (L_as (L_as (L_as (L_nil (thenQ_normal (W_ret (thenQ_ret (blkQ_ret (thenQ_ret (thenQ_ret (blkQ_ret (thenQ_ret ?_)))))))))))))))))))
      refine end_ret [.tmp 2, .tmp 3, .tmp 4] [(.slice none 0 0), (.int .i64 (((k + 1) : Nat) : Int)), (.int .i64 ((scanF (((k + 1) : Nat) : Int) (List.drop x9.1 (List.take x9.2.1 s))).2))] rfl hds ⟨by kernel_rfl, by kernel_rfl, by kernel_rfl, trivial⟩ ?_
      have hE : (((((k + 1) : Nat) : Int) : Int) = (badL (toldF s)).1) ∧ (((scanF (((k + 1) : Nat) : Int) (List.drop x9.1 (List.take x9.2.1 s))).2 : Int) = (badL (toldF s)).2) := ⟨(by (rw [bad_here (by assumption) i3 (by omega)]; done)), (by (rw [bad_here (by assumption) i3 (by omega)]; done))⟩
      exact ⟨tup3 (rfl) (congrArg (Value.int .i64) hE.1) (congrArg (Value.int .i64) hE.2), hb⟩
    · intro h30
      replace h30 : (scanF (((k + 1) : Nat) : Int) (List.drop x9.1 (List.take x9.2.1 s))).2 = 0 := by omega
      refine L_nil (thenQ_normal (W_false (by kernel_rfl) (W_skip (thenQ_normal (W_region (L_mv (L_loadA b24 0 [(.int .i64 ((scanF (((k + 1) : Nat) : Int) (List.drop x9.1 (List.take x9.2.1 s))).1.1)), (.int .u8 ((scanF (((k + 1) : Nat) : Int) (List.drop x9.1 (List.take x9.2.1 s))).1.2.1)), (S ((scanF (((k + 1) : Nat) : Int) (List.drop x9.1 (List.take x9.2.1 s))).1.2.2.1)), q20, (S ((scanF (((k + 1) : Nat) : Int) (List.drop x9.1 (List.take x9.2.1 s))).1.2.2.2.2))] (by kernel_rfl) (by kernel_rfl) (by kernel_rfl) (cells_at o_x8 0 (by kernel_rfl)) (L_app el43 w.heap.size v_5 acc ((scanF (((k + 1) : Nat) : Int) (List.drop x9.1 (List.take x9.2.1 s))).1.1, (scanF (((k + 1) : Nat) : Int) (List.drop x9.1 (List.take x9.2.1 s))).1.2.1, (scanF (((k + 1) : Nat) : Int) (List.drop x9.1 (List.take x9.2.1 s))).1.2.2.1, (q20, (scanF (((k + 1) : Nat) : Int) (List.drop x9.1 (List.take x9.2.1 s))).1.2.2.2.1), (scanF (((k + 1) : Nat) : Int) (List.drop x9.1 (List.take x9.2.1 s))).1.2.2.2.2) hs r_5.1 (by omega) (by kernel_rfl) rfl (allc rfl (allc rfl (allc rfl (allc r_q20.one (allc rfl rfl))))) (by kernel_rfl) rfl (by kernel_rfl) (by kernel_rfl) ?_))))))))
      intro v31 w32 hr33 hg34 how35
      have nc_o_x8 := ownb_app how35 (fun e => nb_o_x8_r_5 (.inl e)) (obj_lt o_x8)
      have nc_o_x8 := nbN_push (x := ((scanF (((k + 1) : Nat) : Int) (List.drop x9.1 (List.take x9.2.1 s))).1.1, (scanF (((k + 1) : Nat) : Int) (List.drop x9.1 (List.take x9.2.1 s))).1.2.1, (scanF (((k + 1) : Nat) : Int) (List.drop x9.1 (List.take x9.2.1 s))).1.2.2.1, (q20, (scanF (((k + 1) : Nat) : Int) (List.drop x9.1 (List.take x9.2.1 s))).1.2.2.2.1), (scanF (((k + 1) : Nat) : Int) (List.drop x9.1 (List.take x9.2.1 s))).1.2.2.2.2)) nb_o_x8_r_5 nc_o_x8 (r_q20.ne o_x8 (by simp))
      replace hb := hb.grown hg34 hs (fun k hk => (World.ownsRow.lt r_5.1 k hk).1)
      replace hs := Nat.le_trans hs (hg34.size)
      have n_o_x7 := obj_grown o_x7 hg34 (r_5.1.ne o_x7 (by simp))
      have n_o_x8 := obj_grown o_x8 hg34 (fun e => nb_o_x8_r_5 (.inl e))
      have n_r_q1 := r_q1.grown hg34 (r_q1.apart r_5.1 (by kernel_rfl))
      have n_r_q20 := r_q20.grown hg34 (r_q20.apart r_5.1 (by kernel_rfl))
      replace o_x7 := n_o_x7; clear n_o_x7
      replace o_x8 := n_o_x8; clear n_o_x8
      replace r_q1 := n_r_q1; clear n_r_q1
      replace r_q20 := n_r_q20; clear n_r_q20
      have nb_o_x8_r_5 := nc_o_x8
      replace r_5 := NRow.push r_5 hg34 hr33 r_q20 (by kernel_rfl)
      refine L_as (L_nil (blkQ_normal (thenQ_normal (W_region (L_addN k 1 (by omega) (by kernel_rfl) (by kernel_rfl) (L_mv (L_nil ?_)))))))
      refine thenQ_normal ⟨_, ?_, (k + 1), (acc ++ [((scanF (((k + 1) : Nat) : Int) (List.drop x9.1 (List.take x9.2.1 s))).1.1, (scanF (((k + 1) : Nat) : Int) (List.drop x9.1 (List.take x9.2.1 s))).1.2.1, (scanF (((k + 1) : Nat) : Int) (List.drop x9.1 (List.take x9.2.1 s))).1.2.2.1, (q20, (scanF (((k + 1) : Nat) : Int) (List.drop x9.1 (List.take x9.2.1 s))).1.2.2.2.1), (scanF (((k + 1) : Nat) : Int) (List.drop x9.1 (List.take x9.2.1 s))).1.2.2.2.2)]), v31, rfl, hds, by kernel_rfl, by kernel_rfl, by kernel_rfl, by kernel_rfl, by kernel_rfl, r_q1, r_5, hb, hs, ?_, ?_, ?_⟩
      · omega
      · omega
      · simp only [List.length_append, List.length_cons, List.length_nil]; omega
      · exact bad_on (by assumption) i3 (by omega)
  · intro h36
    replace h36 : (pcsR s).length ≤ k := by omega
    exfalso; exact hbad (by rw [← told_take h36]; exact i3)


set_option maxHeartbeats 4000000 in
set_option maxRecDepth 100000 in
theorem c_ref09_Read_ok (s : List UInt8) (w : World) (hs : s.length ≤ 33554432) (hok : (mreadF s).2.2 = 0) :
    Calls Tryz.prog 6 #[(S s)] w (Ret fun v w' => ∃ (q0 : Value), v = (.tuple #[q0, (.int .i64 0), (.int .i64 0)]) ∧ Row w' w.heap.size 38 4 encMir q0 ((mreadF s).1) ∧ Below w.heap.size w w') := by
  refine enter (args := [(S s)]) Tryz.func6 rfl (by kernel_rfl : _ = 78) (by kernel_rfl) ?_
  have hb := Below.refl w.heap.size w
  have hs : w.heap.size ≤ w.heap.size := Nat.le_refl _
  refine W_seq (W_region (L_as (L_as (L_as (L_nil (thenQ_normal (W_seq (W_region (L_mv ?_)))))))))
  by_cases hq1 : (badL (toldF s)).2 = 0
  · skip
    refine L_call 14 [(S s)] (by kernel_rfl) (by kernel_rfl) (c_ref03_Read_ok s _ (by first | omega | assumption | exact mcheck_lt (by assumption)) (by first | omega | assumption | exact mcheck_lt (by assumption))) ?_
    rintro _ w3 ⟨l6, q2, rfl, r_q2, hx7, hx8, hx9, hB4⟩
    replace r_q2 := r_q2.base hs
    replace hb := hb.trans (hB4.mono hs)
    replace hs := Nat.le_trans hs (hB4.size)
    refine L_mv (L_run q2 (by kernel_rfl) (by kernel_rfl) (L_run (.int .i64 0) (by kernel_rfl) (by kernel_rfl) (L_run (.int .i64 0) (by kernel_rfl) (by kernel_rfl) (L_as (L_as (L_as (L_nil (thenQ_normal (W_seq (W_seq (W_region (L_mv (L_run (.bool false) (by kernel_rfl) (by kernel_rfl) (L_nil (thenQ_normal (W_false (by kernel_rfl) (W_skip (thenQ_normal (W_seq (W_region (L_as (L_nil (thenQ_normal (W_seq (W_seq (W_region (L_as (L_nil (thenQ_normal (W_block ?_))))))))))))))))))))))))))))))
    have hl := hx7
    have hfs := fs_len hl (by omega : s.length ≤ 1073741823)
    refine W_loop (fun m s0 w0 => ∃ (i : Nat) (acc : List Mir) (v_8 : Value), (m = l6.length - i) ∧ (s0.ds = []) ∧ (s0.f 5 = q2) ∧ (s0.f 8 = v_8) ∧ (s0.f 9 = (.int .i64 ((i : Nat) : Int))) ∧ (NRow 9 w0 w.heap.size 49 5 encLine q2 l6) ∧ (Row w0 w.heap.size 38 4 encMir v_8 acc) ∧ (Below w.heap.size w w0) ∧ (w.heap.size ≤ w0.heap.size) ∧ (i ≤ l6.length) ∧ (acc.length ≤ i) ∧ (goI s l6 i acc)) _ ⟨0, [], (.slice none 0 0), rfl, by kernel_rfl, by kernel_rfl, by kernel_rfl, by kernel_rfl, r_q2, Row.nil _ _ _ _ _, hb, hs, (Nat.zero_le _), (by simp), (go_zero (by assumption) hl)⟩ ?_
    rintro m10 s11 w12 ⟨i, acc, v_8, hm, hds, f_5, f_8, f_9, r_q2, r_8, hb, hs, i1, i2, i3⟩
    refine W_set 5 _ f_5 (W_set 8 _ f_8 (W_set 9 _ f_9 ?_))
    clear f_5 f_8 f_9
    have hll := lines_len hl
    have htl := told_len s
    have hmc := mcheck_err acc
    have hml := mcheck_le acc
    refine W_seq (W_seq (W_region (L_mv (L_mv (L_len 43 49 (l6).length q2 rfl Tryz.underlying43 (r_q2.rd).len (by kernel_rfl) (L_cmp .i64 ((i : Nat) : Int) (((l6).length : Nat) : Int) (i < (l6).length) rfl (cmpN_lt i ((l6).length)) (by kernel_rfl) (by kernel_rfl) ?_ ?_))))))
    · intro h13
      replace h13 : i < (l6).length := by omega
      refine L_nil (thenQ_normal (W_true (by kernel_rfl) (W_skip (thenQ_normal (W_seq (W_block (W_seq (W_seq (W_region (L_mv (L_mv ?_)))))))))))
      have hz := get_some l6 i (by first | omega | assumption | exact mcheck_lt (by assumption)); obtain ⟨x14, hx15⟩ := hz
      have hz := (r_q2.rd).at (k := 5) (fun _ => rfl) hx15
      obtain ⟨g16, off17, hl18, hc19⟩ := hz
      have hff_x14 := scan_ok (by omega) hl hx15
      refine L_ixaddr (k := .i64) q2 i _ g16 off17 el43 hl18 (by first | omega | assumption | exact mcheck_lt (by assumption)) (by kernel_rfl) (by kernel_rfl) (L_run (.pointer (some ⟨g16, ((off17 + i * 5) + 1), none⟩)) (by kernel_rfl) (by kernel_rfl) (L_load g16 ((off17 + i * 5) + 1) (.int .u8 x14.2.1) (by kernel_rfl) (by kernel_rfl) (hc19 1 _ rfl) (L_cmp .u8 x14.2.1 0 (x14.2.1 = 0) rfl (cmp_eq x14.2.1 0) (by kernel_rfl) (by kernel_rfl) ?_ ?_)))
      · intro h20
        replace h20 : x14.2.1 = 0 := by omega
        refine L_mv (L_skip (by kernel_rfl) (L_skip (by kernel_rfl) (L_skip (by kernel_rfl) (L_skip (by kernel_rfl) (L_skip (by kernel_rfl) (L_skip (by kernel_rfl) (L_pickT (by kernel_rfl) (L_nil (thenQ_normal (W_true (by kernel_rfl) (W_exit (thenQ_exit (blkQ_exit (thenQ_normal (W_region (L_mv (L_addN i 1 (by omega) (by kernel_rfl) (by kernel_rfl) (L_as (L_nil ?_)))))))))))))))))))
        refine thenQ_normal ⟨_, ?_, (i + 1), acc, v_8, rfl, hds, by kernel_rfl, by kernel_rfl, by kernel_rfl, r_q2, r_8, hb, hs, ?_, ?_, ?_⟩
        · omega
        · omega
        · first | omega | (simp only [List.length_append, List.length_cons, List.length_nil]; omega)
        · exact go_skip i3 (by assumption) (by omega)
      · intro h21
        replace h21 : x14.2.1 ≠ 0 := by omega
        refine L_mv (L_want (by kernel_rfl) (L_mv (L_want (by kernel_rfl) (L_mv (L_want (by kernel_rfl) ?_)))))
        have hz := (r_q2.rd).at (k := 5) (fun _ => rfl) hx15
        obtain ⟨g24, off25, hl26, hc27⟩ := hz
        refine L_ixaddr (k := .i64) q2 i _ g24 off25 el43 hl26 (by first | omega | assumption | exact mcheck_lt (by assumption)) (by kernel_rfl) (by kernel_rfl) (L_want (by kernel_rfl) (L_run (.pointer (some ⟨g24, ((off25 + i * 5) + 1), none⟩)) (by kernel_rfl) (by kernel_rfl) (L_want (by kernel_rfl) (L_load g24 ((off25 + i * 5) + 1) (.int .u8 x14.2.1) (by kernel_rfl) (by kernel_rfl) (hc27 1 _ rfl) (L_want (by kernel_rfl) (L_cmp .u8 x14.2.1 3 (x14.2.1 = 3) rfl (cmp_eq x14.2.1 3) (by kernel_rfl) (by kernel_rfl) ?_ ?_))))))
        · intro h28
          replace h28 : x14.2.1 = 3 := by omega
          refine L_pickF (by kernel_rfl) (L_nil (thenQ_normal (W_true (by kernel_rfl) (W_exit (thenQ_exit (blkQ_exit (thenQ_normal (W_region (L_mv (L_addN i 1 (by omega) (by kernel_rfl) (by kernel_rfl) (L_as (L_nil ?_))))))))))))
          refine thenQ_normal ⟨_, ?_, (i + 1), acc, v_8, rfl, hds, by kernel_rfl, by kernel_rfl, by kernel_rfl, r_q2, r_8, hb, hs, ?_, ?_, ?_⟩
          · omega
          · omega
          · first | omega | (simp only [List.length_append, List.length_cons, List.length_nil]; omega)
          · exact go_skip i3 (by assumption) (by omega)
        · intro h29
          replace h29 : x14.2.1 ≠ 3 := by omega
          refine L_pickF (by kernel_rfl) (L_nil (thenQ_normal (W_false (by kernel_rfl) (W_skip (thenQ_normal (W_seq (W_region (L_mv (L_mv ?_)))))))))
          have hz := (r_q2.rd).at (k := 5) (fun _ => rfl) hx15
          obtain ⟨g32, off33, hl34, hc35⟩ := hz
          refine L_ixaddr (k := .i64) q2 i _ g32 off33 el43 hl34 (by first | omega | assumption | exact mcheck_lt (by assumption)) (by kernel_rfl) (by kernel_rfl) ?_
          have r_in37 : Row w12 w.heap.size 9 1 encStr (LineV.v x14) (LineV.fs x14) := r_q2.inner (List.mem_of_getElem? hx15)
          refine L_loadA g32 (off33 + i * 5) [(.int .i64 x14.1), (.int .u8 x14.2.1), (S x14.2.2.1), (LineV.v x14), (S x14.2.2.2.2)] (by kernel_rfl) (by kernel_rfl) (by kernel_rfl) hc35 (L_call 15 [(Value.agg #[(.int .i64 x14.1), (.int .u8 x14.2.1), (S x14.2.2.1), (LineV.v x14), (S x14.2.2.2.2)])] (by kernel_rfl) (by kernel_rfl) (c_furrowref09_Scan x14.1 x14.2.1 x14.2.2.1 (LineV.v x14) (LineV.fs x14) x14.2.2.2.2 _ r_in37.rd (by exact (by assumption : _ ∧ _ ∧ _).1) (by exact (by assumption : _ ∧ _ ∧ _).2.1) (by exact (by assumption : _ ∧ _ ∧ _).2.2)) ?_)
          rintro _ w38 ⟨rfl, hB39⟩
          replace hb := hb.trans (hB39.mono hs)
          replace hs := Nat.le_trans hs (hB39.size)
          replace r_q2 := r_q2.below hB39
          replace r_8 := r_8.below hB39
          replace r_in37 := r_in37.below hB39
          have := mscan_err x14.1 x14.2.1 (LineV.fs x14) x14.2.2.2.2
          refine L_mv (L_run (Value.agg #[(.int .i64 ((mscanF x14.1 x14.2.1 (LineV.fs x14) x14.2.2.2.2).1.1)), (.int .i32 ((mscanF x14.1 x14.2.1 (LineV.fs x14) x14.2.2.2.2).1.2.1)), (.int .i32 ((mscanF x14.1 x14.2.1 (LineV.fs x14) x14.2.2.2.2).1.2.2.1)), (.bool ((mscanF x14.1 x14.2.1 (LineV.fs x14) x14.2.2.2.2).1.2.2.2))]) (by kernel_rfl) (by kernel_rfl) (L_run (.int .i64 ((mscanF x14.1 x14.2.1 (LineV.fs x14) x14.2.2.2.2).2)) (by kernel_rfl) (by kernel_rfl) (L_new (fun b => .pointer (some ⟨b, 0, none⟩)) (.cells [(.int .i64 0), (.int .i32 0), (.int .i32 0), (.bool false)].toArray 38 (0, 0)) (by kernel_rfl) (by kernel_rfl) ?_)))
          intro b41 w42 hN43
          have g_x10 : w.heap.size ≤ b41 := by rw [hN43.num]; exact hs
          have nb_o_x10_r_8 := r_8.new_ne hN43
          replace hb := hb.trans (hN43.below.mono hs)
          replace hs := Nat.le_trans hs (hN43.below.size)
          replace r_q2 := r_q2.below hN43.below
          replace r_8 := r_8.below hN43.below
          replace r_in37 := r_in37.below hN43.below
          have o_x10 := hN43.here
          refine L_storeA b41 0 [(.int .i64 ((mscanF x14.1 x14.2.1 (LineV.fs x14) x14.2.2.2.2).1.1)), (.int .i32 ((mscanF x14.1 x14.2.1 (LineV.fs x14) x14.2.2.2.2).1.2.1)), (.int .i32 ((mscanF x14.1 x14.2.1 (LineV.fs x14) x14.2.2.2.2).1.2.2.1)), (.bool ((mscanF x14.1 x14.2.1 (LineV.fs x14) x14.2.2.2.2).1.2.2.2))] [(.int .i64 0), (.int .i32 0), (.int .i32 0), (.bool false)] [(.int .i64 ((mscanF x14.1 x14.2.1 (LineV.fs x14) x14.2.2.2.2).1.1)), (.int .i32 ((mscanF x14.1 x14.2.1 (LineV.fs x14) x14.2.2.2.2).1.2.1)), (.int .i32 ((mscanF x14.1 x14.2.1 (LineV.fs x14) x14.2.2.2.2).1.2.2.1)), (.bool ((mscanF x14.1 x14.2.1 (LineV.fs x14) x14.2.2.2.2).1.2.2.2))] 38 (by kernel_rfl) (by kernel_rfl) rfl (by kernel_rfl) o_x10 (by kernel_rfl) rfl ?_
          intro w44 hW45
          replace hb := hb.trans (hW45.below g_x10)
          replace hs := Nat.le_trans hs (Nat.le_of_eq hW45.size.symm)
          have n_r_q2 := r_q2.wrote hW45 (r_q2.ne o_x10 (by simp))
          have n_r_8 := r_8.wrote hW45 nb_o_x10_r_8
          have n_r_in37 := r_in37.wrote hW45 (r_in37.ne o_x10 (by simp))
          replace r_q2 := n_r_q2; clear n_r_q2
          replace r_8 := n_r_8; clear n_r_8
          replace r_in37 := n_r_in37; clear n_r_in37
          replace o_x10 := hW45.here
          refine L_as (L_nil (thenQ_normal (W_seq (W_seq (W_region (L_mv (L_cmp .i64 ((mscanF x14.1 x14.2.1 (LineV.fs x14) x14.2.2.2.2).2) 0 ((mscanF x14.1 x14.2.1 (LineV.fs x14) x14.2.2.2.2).2 ≠ 0) rfl (cmp_ne ((mscanF x14.1 x14.2.1 (LineV.fs x14) x14.2.2.2.2).2) 0) (by kernel_rfl) (by kernel_rfl) ?_ ?_)))))))
          · intro h46
            replace h46 : (mscanF x14.1 x14.2.1 (LineV.fs x14) x14.2.2.2.2).2 ≠ 0 := by omega
            exfalso; rw [go_bad i3 (by assumption) (by omega) h46] at hok; exact h46 hok
          · intro h47
            replace h47 : (mscanF x14.1 x14.2.1 (LineV.fs x14) x14.2.2.2.2).2 = 0 := by omega
            refine L_nil (thenQ_normal (W_false (by kernel_rfl) (W_skip (thenQ_normal (W_region (L_mv (L_loadA b41 0 [(.int .i64 ((mscanF x14.1 x14.2.1 (LineV.fs x14) x14.2.2.2.2).1.1)), (.int .i32 ((mscanF x14.1 x14.2.1 (LineV.fs x14) x14.2.2.2.2).1.2.1)), (.int .i32 ((mscanF x14.1 x14.2.1 (LineV.fs x14) x14.2.2.2.2).1.2.2.1)), (.bool ((mscanF x14.1 x14.2.1 (LineV.fs x14) x14.2.2.2.2).1.2.2.2))] (by kernel_rfl) (by kernel_rfl) (by kernel_rfl) (cells_at o_x10 0 (by kernel_rfl)) (L_app el23 w.heap.size v_8 acc ((mscanF x14.1 x14.2.1 (LineV.fs x14) x14.2.2.2.2).1.1, (mscanF x14.1 x14.2.1 (LineV.fs x14) x14.2.2.2.2).1.2.1, (mscanF x14.1 x14.2.1 (LineV.fs x14) x14.2.2.2.2).1.2.2.1, (mscanF x14.1 x14.2.1 (LineV.fs x14) x14.2.2.2.2).1.2.2.2) hs r_8 (by omega) (by kernel_rfl) rfl rfl (by kernel_rfl) rfl (by kernel_rfl) (by kernel_rfl) ?_))))))))
            intro v48 w49 hr50 hg51 how52
            have nc_o_x10 := ownb_app how52 nb_o_x10_r_8 (obj_lt o_x10)
            replace hb := hb.grown hg51 hs (fun k hk => (World.ownsRow.lt r_8 k hk).1)
            replace hs := Nat.le_trans hs (hg51.size)
            have n_o_x10 := obj_grown o_x10 hg51 nb_o_x10_r_8
            have n_r_q2 := r_q2.grown hg51 (r_q2.apart r_8 (by kernel_rfl))
            have n_r_in37 := r_in37.grown hg51 (r_in37.apart r_8 (by kernel_rfl))
            replace o_x10 := n_o_x10; clear n_o_x10
            replace r_q2 := n_r_q2; clear n_r_q2
            replace r_in37 := n_r_in37; clear n_r_in37
            have nb_o_x10_r_8 := nc_o_x10
            replace r_8 := hr50
            refine L_as (L_nil (blkQ_normal (thenQ_normal (W_region (L_mv (L_addN i 1 (by omega) (by kernel_rfl) (by kernel_rfl) (L_as (L_nil ?_))))))))
            refine thenQ_normal ⟨_, ?_, (i + 1), (acc ++ [((mscanF x14.1 x14.2.1 (LineV.fs x14) x14.2.2.2.2).1.1, (mscanF x14.1 x14.2.1 (LineV.fs x14) x14.2.2.2.2).1.2.1, (mscanF x14.1 x14.2.1 (LineV.fs x14) x14.2.2.2.2).1.2.2.1, (mscanF x14.1 x14.2.1 (LineV.fs x14) x14.2.2.2.2).1.2.2.2)]), v48, rfl, hds, by kernel_rfl, by kernel_rfl, by kernel_rfl, r_q2, r_8, hb, hs, ?_, ?_, ?_⟩
            · omega
            · omega
            · first | omega | (simp only [List.length_append, List.length_cons, List.length_nil]; omega)
            · exact go_on i3 (by assumption) (by omega) (by omega)
    · intro h53
      replace h53 : (l6).length ≤ i := by omega
      refine L_nil (thenQ_normal (W_false (by kernel_rfl) (W_exit (thenQ_exit (thenQ_exit (blkQ_exit (thenQ_normal (W_seq (W_seq (W_region (L_mv (L_call 16 [v_8] (by kernel_rfl) (by kernel_rfl) (c_furrowref09_Check v_8 acc _ r_8.rd (by first | omega | assumption | exact mcheck_lt (by assumption))) ?_))))))))))))
      rintro _ w54 ⟨rfl, hB55⟩
      replace hb := hb.trans (hB55.mono hs)
      replace hs := Nat.le_trans hs (hB55.size)
      replace r_q2 := r_q2.below hB55
      replace r_8 := r_8.below hB55
      have := mcheck_err acc
      have := mcheck_le acc
      refine L_mv (L_run (.int .i64 (((mcheckF acc).1 : Nat) : Int)) (by kernel_rfl) (by kernel_rfl) (L_run (.int .i64 ((mcheckF acc).2)) (by kernel_rfl) (by kernel_rfl) (L_as (L_as (L_nil (thenQ_normal (W_seq (W_region (L_mv (L_cmp .i64 ((mcheckF acc).2) 0 ((mcheckF acc).2 ≠ 0) rfl (cmp_ne ((mcheckF acc).2) 0) (by kernel_rfl) (by kernel_rfl) ?_ ?_))))))))))
      · intro h57
        replace h57 : (mcheckF acc).2 ≠ 0 := by omega
        exfalso; rw [go_check i3 (by omega) h57 (List.getElem?_eq_getElem (mcheck_lt h57))] at hok; exact h57 hok
      · intro h58
        replace h58 : (mcheckF acc).2 = 0 := by omega
        refine L_nil (thenQ_normal (W_false (by kernel_rfl) (W_skip (thenQ_normal (W_seq (W_region (L_mv (L_as (L_as (L_as (L_nil (thenQ_normal (W_ret ?_)))))))))))))
        refine end_ret [.tmp 2, .tmp 3, .tmp 4] [v_8, (.int .i64 0), (.int .i64 0)] rfl hds ⟨by kernel_rfl, by kernel_rfl, by kernel_rfl, trivial⟩ ?_
        have hE : (0 = 0) ∧ (0 = 0) ∧ (acc = (mreadF s).1) := ⟨(by first | rfl | (rw [go_fine i3 (by omega) (by omega)]; done)), (by first | rfl | (rw [go_fine i3 (by omega) (by omega)]; done)), (by first | rfl | (rw [go_fine i3 (by omega) (by omega)]; done))⟩
        exact ⟨v_8, tup3 (rfl) (congrArg (fun x : Nat => Value.int .i64 (x : Int)) hE.1) (congrArg (fun x : Nat => Value.int .i64 (x : Int)) hE.2.1), r_8.cast hE.2.2, hb⟩
  · skip
    exfalso; exact hq1 (mr_ok1 hok)

set_option maxHeartbeats 4000000 in
set_option maxRecDepth 100000 in
theorem c_ref09_Read_bad (s : List UInt8) (w : World) (hs : s.length ≤ 33554432) (hbad : (mreadF s).2.2 ≠ 0) :
    Calls Tryz.prog 6 #[(S s)] w (Ret fun v w' => v = (.tuple #[(.slice none 0 0), (.int .i64 ((mreadF s).2.1)), (.int .i64 ((mreadF s).2.2))]) ∧ Below w.heap.size w w') := by
  refine enter (args := [(S s)]) Tryz.func6 rfl (by kernel_rfl : _ = 78) (by kernel_rfl) ?_
  have hb := Below.refl w.heap.size w
  have hs : w.heap.size ≤ w.heap.size := Nat.le_refl _
  refine W_seq (W_region (L_as (L_as (L_as (L_nil (thenQ_normal (W_seq (W_region (L_mv ?_)))))))))
  by_cases hq1 : (badL (toldF s)).2 = 0
  · skip
    refine L_call 14 [(S s)] (by kernel_rfl) (by kernel_rfl) (c_ref03_Read_ok s _ (by first | omega | assumption | exact mcheck_lt (by assumption)) (by first | omega | assumption | exact mcheck_lt (by assumption))) ?_
    rintro _ w3 ⟨l6, q2, rfl, r_q2, hx7, hx8, hx9, hB4⟩
    replace r_q2 := r_q2.base hs
    replace hb := hb.trans (hB4.mono hs)
    replace hs := Nat.le_trans hs (hB4.size)
    refine L_mv (L_run q2 (by kernel_rfl) (by kernel_rfl) (L_run (.int .i64 0) (by kernel_rfl) (by kernel_rfl) (L_run (.int .i64 0) (by kernel_rfl) (by kernel_rfl) (L_as (L_as (L_as (L_nil (thenQ_normal (W_seq (W_seq (W_region (L_mv (L_run (.bool false) (by kernel_rfl) (by kernel_rfl) (L_nil (thenQ_normal (W_false (by kernel_rfl) (W_skip (thenQ_normal (W_seq (W_region (L_as (L_nil (thenQ_normal (W_seq (W_seq (W_region (L_as (L_nil (thenQ_normal (W_block ?_))))))))))))))))))))))))))))))
    have hl := hx7
    have hfs := fs_len hl (by omega : s.length ≤ 1073741823)
    refine W_loop (fun m s0 w0 => ∃ (i : Nat) (acc : List Mir) (v_8 : Value), (m = l6.length - i) ∧ (s0.ds = []) ∧ (s0.f 5 = q2) ∧ (s0.f 8 = v_8) ∧ (s0.f 9 = (.int .i64 ((i : Nat) : Int))) ∧ (NRow 9 w0 w.heap.size 49 5 encLine q2 l6) ∧ (Row w0 w.heap.size 38 4 encMir v_8 acc) ∧ (Below w.heap.size w w0) ∧ (w.heap.size ≤ w0.heap.size) ∧ (i ≤ l6.length) ∧ (acc.length ≤ i) ∧ (goI s l6 i acc)) _ ⟨0, [], (.slice none 0 0), rfl, by kernel_rfl, by kernel_rfl, by kernel_rfl, by kernel_rfl, r_q2, Row.nil _ _ _ _ _, hb, hs, (Nat.zero_le _), (by simp), (go_zero (by assumption) hl)⟩ ?_
    rintro m10 s11 w12 ⟨i, acc, v_8, hm, hds, f_5, f_8, f_9, r_q2, r_8, hb, hs, i1, i2, i3⟩
    refine W_set 5 _ f_5 (W_set 8 _ f_8 (W_set 9 _ f_9 ?_))
    clear f_5 f_8 f_9
    have hll := lines_len hl
    have htl := told_len s
    have hmc := mcheck_err acc
    have hml := mcheck_le acc
    refine W_seq (W_seq (W_region (L_mv (L_mv (L_len 43 49 (l6).length q2 rfl Tryz.underlying43 (r_q2.rd).len (by kernel_rfl) (L_cmp .i64 ((i : Nat) : Int) (((l6).length : Nat) : Int) (i < (l6).length) rfl (cmpN_lt i ((l6).length)) (by kernel_rfl) (by kernel_rfl) ?_ ?_))))))
    · intro h13
      replace h13 : i < (l6).length := by omega
      refine L_nil (thenQ_normal (W_true (by kernel_rfl) (W_skip (thenQ_normal (W_seq (W_block (W_seq (W_seq (W_region (L_mv (L_mv ?_)))))))))))
      have hz := get_some l6 i (by first | omega | assumption | exact mcheck_lt (by assumption)); obtain ⟨x14, hx15⟩ := hz
      have hz := (r_q2.rd).at (k := 5) (fun _ => rfl) hx15
      obtain ⟨g16, off17, hl18, hc19⟩ := hz
      have hff_x14 := scan_ok (by omega) hl hx15
      refine L_ixaddr (k := .i64) q2 i _ g16 off17 el43 hl18 (by first | omega | assumption | exact mcheck_lt (by assumption)) (by kernel_rfl) (by kernel_rfl) (L_run (.pointer (some ⟨g16, ((off17 + i * 5) + 1), none⟩)) (by kernel_rfl) (by kernel_rfl) (L_load g16 ((off17 + i * 5) + 1) (.int .u8 x14.2.1) (by kernel_rfl) (by kernel_rfl) (hc19 1 _ rfl) (L_cmp .u8 x14.2.1 0 (x14.2.1 = 0) rfl (cmp_eq x14.2.1 0) (by kernel_rfl) (by kernel_rfl) ?_ ?_)))
      · intro h20
        replace h20 : x14.2.1 = 0 := by omega
        refine L_mv (L_skip (by kernel_rfl) (L_skip (by kernel_rfl) (L_skip (by kernel_rfl) (L_skip (by kernel_rfl) (L_skip (by kernel_rfl) (L_skip (by kernel_rfl) (L_pickT (by kernel_rfl) (L_nil (thenQ_normal (W_true (by kernel_rfl) (W_exit (thenQ_exit (blkQ_exit (thenQ_normal (W_region (L_mv (L_addN i 1 (by omega) (by kernel_rfl) (by kernel_rfl) (L_as (L_nil ?_)))))))))))))))))))
        refine thenQ_normal ⟨_, ?_, (i + 1), acc, v_8, rfl, hds, by kernel_rfl, by kernel_rfl, by kernel_rfl, r_q2, r_8, hb, hs, ?_, ?_, ?_⟩
        · omega
        · omega
        · first | omega | (simp only [List.length_append, List.length_cons, List.length_nil]; omega)
        · exact go_skip i3 (by assumption) (by omega)
      · intro h21
        replace h21 : x14.2.1 ≠ 0 := by omega
        refine L_mv (L_want (by kernel_rfl) (L_mv (L_want (by kernel_rfl) (L_mv (L_want (by kernel_rfl) ?_)))))
        have hz := (r_q2.rd).at (k := 5) (fun _ => rfl) hx15
        obtain ⟨g24, off25, hl26, hc27⟩ := hz
        refine L_ixaddr (k := .i64) q2 i _ g24 off25 el43 hl26 (by first | omega | assumption | exact mcheck_lt (by assumption)) (by kernel_rfl) (by kernel_rfl) (L_want (by kernel_rfl) (L_run (.pointer (some ⟨g24, ((off25 + i * 5) + 1), none⟩)) (by kernel_rfl) (by kernel_rfl) (L_want (by kernel_rfl) (L_load g24 ((off25 + i * 5) + 1) (.int .u8 x14.2.1) (by kernel_rfl) (by kernel_rfl) (hc27 1 _ rfl) (L_want (by kernel_rfl) (L_cmp .u8 x14.2.1 3 (x14.2.1 = 3) rfl (cmp_eq x14.2.1 3) (by kernel_rfl) (by kernel_rfl) ?_ ?_))))))
        · intro h28
          replace h28 : x14.2.1 = 3 := by omega
          refine L_pickF (by kernel_rfl) (L_nil (thenQ_normal (W_true (by kernel_rfl) (W_exit (thenQ_exit (blkQ_exit (thenQ_normal (W_region (L_mv (L_addN i 1 (by omega) (by kernel_rfl) (by kernel_rfl) (L_as (L_nil ?_))))))))))))
          refine thenQ_normal ⟨_, ?_, (i + 1), acc, v_8, rfl, hds, by kernel_rfl, by kernel_rfl, by kernel_rfl, r_q2, r_8, hb, hs, ?_, ?_, ?_⟩
          · omega
          · omega
          · first | omega | (simp only [List.length_append, List.length_cons, List.length_nil]; omega)
          · exact go_skip i3 (by assumption) (by omega)
        · intro h29
          replace h29 : x14.2.1 ≠ 3 := by omega
          refine L_pickF (by kernel_rfl) (L_nil (thenQ_normal (W_false (by kernel_rfl) (W_skip (thenQ_normal (W_seq (W_region (L_mv (L_mv ?_)))))))))
          have hz := (r_q2.rd).at (k := 5) (fun _ => rfl) hx15
          obtain ⟨g32, off33, hl34, hc35⟩ := hz
          refine L_ixaddr (k := .i64) q2 i _ g32 off33 el43 hl34 (by first | omega | assumption | exact mcheck_lt (by assumption)) (by kernel_rfl) (by kernel_rfl) ?_
          have r_in37 : Row w12 w.heap.size 9 1 encStr (LineV.v x14) (LineV.fs x14) := r_q2.inner (List.mem_of_getElem? hx15)
          refine L_loadA g32 (off33 + i * 5) [(.int .i64 x14.1), (.int .u8 x14.2.1), (S x14.2.2.1), (LineV.v x14), (S x14.2.2.2.2)] (by kernel_rfl) (by kernel_rfl) (by kernel_rfl) hc35 (L_call 15 [(Value.agg #[(.int .i64 x14.1), (.int .u8 x14.2.1), (S x14.2.2.1), (LineV.v x14), (S x14.2.2.2.2)])] (by kernel_rfl) (by kernel_rfl) (c_furrowref09_Scan x14.1 x14.2.1 x14.2.2.1 (LineV.v x14) (LineV.fs x14) x14.2.2.2.2 _ r_in37.rd (by exact (by assumption : _ ∧ _ ∧ _).1) (by exact (by assumption : _ ∧ _ ∧ _).2.1) (by exact (by assumption : _ ∧ _ ∧ _).2.2)) ?_)
          rintro _ w38 ⟨rfl, hB39⟩
          replace hb := hb.trans (hB39.mono hs)
          replace hs := Nat.le_trans hs (hB39.size)
          replace r_q2 := r_q2.below hB39
          replace r_8 := r_8.below hB39
          replace r_in37 := r_in37.below hB39
          have := mscan_err x14.1 x14.2.1 (LineV.fs x14) x14.2.2.2.2
          refine L_mv (L_run (Value.agg #[(.int .i64 ((mscanF x14.1 x14.2.1 (LineV.fs x14) x14.2.2.2.2).1.1)), (.int .i32 ((mscanF x14.1 x14.2.1 (LineV.fs x14) x14.2.2.2.2).1.2.1)), (.int .i32 ((mscanF x14.1 x14.2.1 (LineV.fs x14) x14.2.2.2.2).1.2.2.1)), (.bool ((mscanF x14.1 x14.2.1 (LineV.fs x14) x14.2.2.2.2).1.2.2.2))]) (by kernel_rfl) (by kernel_rfl) (L_run (.int .i64 ((mscanF x14.1 x14.2.1 (LineV.fs x14) x14.2.2.2.2).2)) (by kernel_rfl) (by kernel_rfl) (L_new (fun b => .pointer (some ⟨b, 0, none⟩)) (.cells [(.int .i64 0), (.int .i32 0), (.int .i32 0), (.bool false)].toArray 38 (0, 0)) (by kernel_rfl) (by kernel_rfl) ?_)))
          intro b41 w42 hN43
          have g_x10 : w.heap.size ≤ b41 := by rw [hN43.num]; exact hs
          have nb_o_x10_r_8 := r_8.new_ne hN43
          replace hb := hb.trans (hN43.below.mono hs)
          replace hs := Nat.le_trans hs (hN43.below.size)
          replace r_q2 := r_q2.below hN43.below
          replace r_8 := r_8.below hN43.below
          replace r_in37 := r_in37.below hN43.below
          have o_x10 := hN43.here
          refine L_storeA b41 0 [(.int .i64 ((mscanF x14.1 x14.2.1 (LineV.fs x14) x14.2.2.2.2).1.1)), (.int .i32 ((mscanF x14.1 x14.2.1 (LineV.fs x14) x14.2.2.2.2).1.2.1)), (.int .i32 ((mscanF x14.1 x14.2.1 (LineV.fs x14) x14.2.2.2.2).1.2.2.1)), (.bool ((mscanF x14.1 x14.2.1 (LineV.fs x14) x14.2.2.2.2).1.2.2.2))] [(.int .i64 0), (.int .i32 0), (.int .i32 0), (.bool false)] [(.int .i64 ((mscanF x14.1 x14.2.1 (LineV.fs x14) x14.2.2.2.2).1.1)), (.int .i32 ((mscanF x14.1 x14.2.1 (LineV.fs x14) x14.2.2.2.2).1.2.1)), (.int .i32 ((mscanF x14.1 x14.2.1 (LineV.fs x14) x14.2.2.2.2).1.2.2.1)), (.bool ((mscanF x14.1 x14.2.1 (LineV.fs x14) x14.2.2.2.2).1.2.2.2))] 38 (by kernel_rfl) (by kernel_rfl) rfl (by kernel_rfl) o_x10 (by kernel_rfl) rfl ?_
          intro w44 hW45
          replace hb := hb.trans (hW45.below g_x10)
          replace hs := Nat.le_trans hs (Nat.le_of_eq hW45.size.symm)
          have n_r_q2 := r_q2.wrote hW45 (r_q2.ne o_x10 (by simp))
          have n_r_8 := r_8.wrote hW45 nb_o_x10_r_8
          have n_r_in37 := r_in37.wrote hW45 (r_in37.ne o_x10 (by simp))
          replace r_q2 := n_r_q2; clear n_r_q2
          replace r_8 := n_r_8; clear n_r_8
          replace r_in37 := n_r_in37; clear n_r_in37
          replace o_x10 := hW45.here
          refine L_as (L_nil (thenQ_normal (W_seq (W_seq (W_region (L_mv (L_cmp .i64 ((mscanF x14.1 x14.2.1 (LineV.fs x14) x14.2.2.2.2).2) 0 ((mscanF x14.1 x14.2.1 (LineV.fs x14) x14.2.2.2.2).2 ≠ 0) rfl (cmp_ne ((mscanF x14.1 x14.2.1 (LineV.fs x14) x14.2.2.2.2).2) 0) (by kernel_rfl) (by kernel_rfl) ?_ ?_)))))))
          · intro h46
            replace h46 : (mscanF x14.1 x14.2.1 (LineV.fs x14) x14.2.2.2.2).2 ≠ 0 := by omega
            refine L_nil (thenQ_normal (W_true (by kernel_rfl) (W_seq (W_quiet (by kernel_rfl) (by kernel_rfl) (Lq_mv (Lq_mv ?_))))))
            have hz := (r_q2.rd).at (k := 5) (fun _ => rfl) hx15
            obtain ⟨g49, off50, hl51, hc52⟩ := hz
            refine Lq_ixaddr (k := .i64) q2 i _ g49 off50 el43 hl51 (by first | omega | assumption | exact mcheck_lt (by assumption)) (by kernel_rfl) (by kernel_rfl) (Lq_run (.pointer (some ⟨g49, (off50 + i * 5), none⟩)) (fun _ => by kernel_rfl) (Lq_load g49 (off50 + i * 5) (.int .i64 x14.1) (by kernel_rfl) (fun _ => by kernel_rfl) (hc52 0 _ rfl) (Lq_mv (Lq_as (Lq_as (Lq_as (Lq_nil ?_)))))))
            intro w53 hB54
            replace hb := hb.trans (hB54.mono hs)
            replace hs := Nat.le_trans hs (hB54.size)
            replace o_x10 := obj_below o_x10 hB54
            replace r_q2 := r_q2.below hB54
            replace r_8 := r_8.below hB54
            replace r_in37 := r_in37.below hB54
            refine thenQ_normal (W_ret (thenQ_ret (blkQ_ret (thenQ_ret (thenQ_ret (blkQ_ret (thenQ_ret ?_)))))))
            refine end_ret [.tmp 2, .tmp 3, .tmp 4] [(.slice none 0 0), (.int .i64 x14.1), (.int .i64 ((mscanF x14.1 x14.2.1 (LineV.fs x14) x14.2.2.2.2).2))] rfl hds ⟨by kernel_rfl, by kernel_rfl, by kernel_rfl, trivial⟩ ?_
            have hE : ((x14.1 : Int) = (mreadF s).2.1) ∧ (((mscanF x14.1 x14.2.1 (LineV.fs x14) x14.2.2.2.2).2 : Int) = (mreadF s).2.2) := ⟨(by (rw [go_bad i3 (by assumption) (by omega) (by assumption)]; done)), (by (rw [go_bad i3 (by assumption) (by omega) (by assumption)]; done))⟩
            exact ⟨tup3 (rfl) (congrArg (Value.int .i64) hE.1) (congrArg (Value.int .i64) hE.2), hb⟩
          · intro h55
            replace h55 : (mscanF x14.1 x14.2.1 (LineV.fs x14) x14.2.2.2.2).2 = 0 := by omega
            refine L_nil (thenQ_normal (W_false (by kernel_rfl) (W_skip (thenQ_normal (W_region (L_mv (L_loadA b41 0 [(.int .i64 ((mscanF x14.1 x14.2.1 (LineV.fs x14) x14.2.2.2.2).1.1)), (.int .i32 ((mscanF x14.1 x14.2.1 (LineV.fs x14) x14.2.2.2.2).1.2.1)), (.int .i32 ((mscanF x14.1 x14.2.1 (LineV.fs x14) x14.2.2.2.2).1.2.2.1)), (.bool ((mscanF x14.1 x14.2.1 (LineV.fs x14) x14.2.2.2.2).1.2.2.2))] (by kernel_rfl) (by kernel_rfl) (by kernel_rfl) (cells_at o_x10 0 (by kernel_rfl)) (L_app el23 w.heap.size v_8 acc ((mscanF x14.1 x14.2.1 (LineV.fs x14) x14.2.2.2.2).1.1, (mscanF x14.1 x14.2.1 (LineV.fs x14) x14.2.2.2.2).1.2.1, (mscanF x14.1 x14.2.1 (LineV.fs x14) x14.2.2.2.2).1.2.2.1, (mscanF x14.1 x14.2.1 (LineV.fs x14) x14.2.2.2.2).1.2.2.2) hs r_8 (by omega) (by kernel_rfl) rfl rfl (by kernel_rfl) rfl (by kernel_rfl) (by kernel_rfl) ?_))))))))
            intro v56 w57 hr58 hg59 how60
            have nc_o_x10 := ownb_app how60 nb_o_x10_r_8 (obj_lt o_x10)
            replace hb := hb.grown hg59 hs (fun k hk => (World.ownsRow.lt r_8 k hk).1)
            replace hs := Nat.le_trans hs (hg59.size)
            have n_o_x10 := obj_grown o_x10 hg59 nb_o_x10_r_8
            have n_r_q2 := r_q2.grown hg59 (r_q2.apart r_8 (by kernel_rfl))
            have n_r_in37 := r_in37.grown hg59 (r_in37.apart r_8 (by kernel_rfl))
            replace o_x10 := n_o_x10; clear n_o_x10
            replace r_q2 := n_r_q2; clear n_r_q2
            replace r_in37 := n_r_in37; clear n_r_in37
            have nb_o_x10_r_8 := nc_o_x10
            replace r_8 := hr58
            refine L_as (L_nil (blkQ_normal (thenQ_normal (W_region (L_mv (L_addN i 1 (by omega) (by kernel_rfl) (by kernel_rfl) (L_as (L_nil ?_))))))))
            refine thenQ_normal ⟨_, ?_, (i + 1), (acc ++ [((mscanF x14.1 x14.2.1 (LineV.fs x14) x14.2.2.2.2).1.1, (mscanF x14.1 x14.2.1 (LineV.fs x14) x14.2.2.2.2).1.2.1, (mscanF x14.1 x14.2.1 (LineV.fs x14) x14.2.2.2.2).1.2.2.1, (mscanF x14.1 x14.2.1 (LineV.fs x14) x14.2.2.2.2).1.2.2.2)]), v56, rfl, hds, by kernel_rfl, by kernel_rfl, by kernel_rfl, r_q2, r_8, hb, hs, ?_, ?_, ?_⟩
            · omega
            · omega
            · first | omega | (simp only [List.length_append, List.length_cons, List.length_nil]; omega)
            · exact go_on i3 (by assumption) (by omega) (by omega)
    · intro h61
      replace h61 : (l6).length ≤ i := by omega
      refine L_nil (thenQ_normal (W_false (by kernel_rfl) (W_exit (thenQ_exit (thenQ_exit (blkQ_exit (thenQ_normal (W_seq (W_seq (W_region (L_mv (L_call 16 [v_8] (by kernel_rfl) (by kernel_rfl) (c_furrowref09_Check v_8 acc _ r_8.rd (by first | omega | assumption | exact mcheck_lt (by assumption))) ?_))))))))))))
      rintro _ w62 ⟨rfl, hB63⟩
      replace hb := hb.trans (hB63.mono hs)
      replace hs := Nat.le_trans hs (hB63.size)
      replace r_q2 := r_q2.below hB63
      replace r_8 := r_8.below hB63
      have := mcheck_err acc
      have := mcheck_le acc
      refine L_mv (L_run (.int .i64 (((mcheckF acc).1 : Nat) : Int)) (by kernel_rfl) (by kernel_rfl) (L_run (.int .i64 ((mcheckF acc).2)) (by kernel_rfl) (by kernel_rfl) (L_as (L_as (L_nil (thenQ_normal (W_seq (W_region (L_mv (L_cmp .i64 ((mcheckF acc).2) 0 ((mcheckF acc).2 ≠ 0) rfl (cmp_ne ((mcheckF acc).2) 0) (by kernel_rfl) (by kernel_rfl) ?_ ?_))))))))))
      · intro h65
        replace h65 : (mcheckF acc).2 ≠ 0 := by omega
        refine L_nil (thenQ_normal (W_true (by kernel_rfl) (W_seq (W_quiet (by kernel_rfl) (by kernel_rfl) (Lq_mv (Lq_mv ?_))))))
        have hz := get_some acc ((mcheckF acc).1) (by first | omega | assumption | exact mcheck_lt (by assumption)); obtain ⟨x66, hx67⟩ := hz
        have hz := (r_8.rd).at (k := 4) (fun _ => rfl) hx67
        obtain ⟨g68, off69, hl70, hc71⟩ := hz
        refine Lq_ixaddr (k := .i64) v_8 ((mcheckF acc).1) _ g68 off69 el23 hl70 (by first | omega | assumption | exact mcheck_lt (by assumption)) (by kernel_rfl) (by kernel_rfl) (Lq_run (.pointer (some ⟨g68, (off69 + ((mcheckF acc).1) * 4), none⟩)) (fun _ => by kernel_rfl) (Lq_load g68 (off69 + ((mcheckF acc).1) * 4) (.int .i64 x66.1) (by kernel_rfl) (fun _ => by kernel_rfl) (hc71 0 _ rfl) (Lq_mv (Lq_as (Lq_as (Lq_as (Lq_nil ?_)))))))
        intro w72 hB73
        replace hb := hb.trans (hB73.mono hs)
        replace hs := Nat.le_trans hs (hB73.size)
        replace r_q2 := r_q2.below hB73
        replace r_8 := r_8.below hB73
        refine thenQ_normal (W_ret (thenQ_ret ?_))
        refine end_ret [.tmp 2, .tmp 3, .tmp 4] [(.slice none 0 0), (.int .i64 x66.1), (.int .i64 ((mcheckF acc).2))] rfl hds ⟨by kernel_rfl, by kernel_rfl, by kernel_rfl, trivial⟩ ?_
        have hE : ((x66.1 : Int) = (mreadF s).2.1) ∧ (((mcheckF acc).2 : Int) = (mreadF s).2.2) := ⟨(by (rw [go_check i3 (by omega) (by assumption) (by assumption)]; done)), (by (rw [go_check i3 (by omega) (by assumption) (by assumption)]; done))⟩
        exact ⟨tup3 (rfl) (congrArg (Value.int .i64) hE.1) (congrArg (Value.int .i64) hE.2), hb⟩
      · intro h74
        replace h74 : (mcheckF acc).2 = 0 := by omega
        exfalso; rw [go_fine i3 (by omega) h74] at hbad; exact hbad rfl
  · skip
    refine L_call 14 [(S s)] (by kernel_rfl) (by kernel_rfl) (c_ref03_Read_bad s _ (by first | omega | assumption | exact mcheck_lt (by assumption)) (by first | omega | assumption | exact mcheck_lt (by assumption))) ?_
    rintro _ w75 ⟨rfl, hB76⟩
    replace hb := hb.trans (hB76.mono hs)
    replace hs := Nat.le_trans hs (hB76.size)
    refine L_mv (L_run (.slice none 0 0) (by kernel_rfl) (by kernel_rfl) (L_run (.int .i64 ((badL (toldF s)).1)) (by kernel_rfl) (by kernel_rfl) (L_run (.int .i64 ((badL (toldF s)).2)) (by kernel_rfl) (by kernel_rfl) (L_as (L_as (L_as (L_nil (thenQ_normal (W_seq (W_seq (W_region (L_mv (L_cmp .i64 ((badL (toldF s)).2) 0 ((badL (toldF s)).2 ≠ 0) rfl (cmp_ne ((badL (toldF s)).2) 0) (by kernel_rfl) (by kernel_rfl) ?_ ?_)))))))))))))
    · intro h78
      replace h78 : (badL (toldF s)).2 ≠ 0 := by omega
      refine L_nil (thenQ_normal (W_true (by kernel_rfl) (W_seq (W_region (L_mv (L_mv (L_as (L_as (L_as (L_nil (thenQ_normal (W_ret (thenQ_ret ?_)))))))))))))
      refine end_ret [.tmp 2, .tmp 3, .tmp 4] [(.slice none 0 0), (.int .i64 ((badL (toldF s)).1)), (.int .i64 ((badL (toldF s)).2))] rfl rfl ⟨by kernel_rfl, by kernel_rfl, by kernel_rfl, trivial⟩ ?_
      have hE : (((badL (toldF s)).1 : Int) = (mreadF s).2.1) ∧ (((badL (toldF s)).2 : Int) = (mreadF s).2.2) := ⟨(by (rw [mr_bad (by assumption)]; done)), (by (rw [mr_bad (by assumption)]; done))⟩
      exact ⟨tup3 (rfl) (congrArg (Value.int .i64) hE.1) (congrArg (Value.int .i64) hE.2), hb⟩
    · intro h79
      replace h79 : (badL (toldF s)).2 = 0 := by omega
      exfalso; omega


set_option maxHeartbeats 4000000 in
set_option maxRecDepth 100000 in
theorem c_furrowlaw09_MirrorsReads (f : List UInt8) (s : List UInt8) (w : World) (hty : w.cell? ⟨0, 0, none⟩ = some (.iface 100 (.agg #[.pointer (some ⟨4, 25, none⟩)]))) (hs : s.length ≤ 1048576) :
    Calls Tryz.prog 3 #[(S f), (S s)] w (Ret fun v w' => v = (.bool true) ∧ Below w.heap.size w w') := by
  refine enter (args := [(S f), (S s)]) Tryz.func3 rfl (by kernel_rfl : _ = 129) (by kernel_rfl) ?_
  have hb := Below.refl w.heap.size w
  have hs : w.heap.size ≤ w.heap.size := Nat.le_refl _
  have hrl := read_len s
  refine W_seq (W_region (L_as (L_nil (thenQ_normal (W_seq (W_seq (W_region (L_mv (L_slen 9 s rfl Tryz.underlying9 (by kernel_rfl) (L_cmp .i64 (((s).length : Nat) : Int) ((32768 : Nat) : Int) (32768 < (s).length) rfl (cmpN_gt ((s).length) 32768) (by kernel_rfl) (by kernel_rfl) ?_ ?_))))))))))
  · intro h1
    replace h1 : 32768 < (s).length := by omega
    refine L_nil (thenQ_normal (W_true (by kernel_rfl) (W_seq (W_region (L_call 4 [] (by kernel_rfl) (by kernel_rfl) (c_furrowlaw09_awake  _ (gcell_below hty hb)) ?_)))))
    rintro _ w2 ⟨rfl, hB3⟩
    replace hb := hb.trans (hB3.mono hs)
    replace hs := Nat.le_trans hs (hB3.size)
    refine L_as (L_nil (thenQ_normal (W_ret (thenQ_ret ?_))))
    refine end_ret [.tmp 4] [(.bool true)] rfl rfl ⟨by kernel_rfl, trivial⟩ ?_
    have e0 : true = true := by first | rfl | (exfalso; omega) | (simp_all; done)
    exact ⟨congrArg Value.bool e0, hb⟩
  · intro h5
    replace h5 : (s).length ≤ 32768 := by omega
    refine L_nil (thenQ_normal (W_false (by kernel_rfl) (W_skip (thenQ_normal (W_seq (W_region (L_mv (L_mv ?_))))))))
    by_cases hq6 : (mreadF s).2.2 = 0
    · skip
      refine L_call 5 [(S f), (S s)] (by kernel_rfl) (by kernel_rfl) (c_mirrors_Read_ok f s _ (by first | omega | (simp only [List.length_append, List.length_cons, List.length_nil]; omega)) (by first | omega | (simp only [List.length_append, List.length_cons, List.length_nil]; omega))) ?_
      rintro _ w8 ⟨q7, rfl, r_q7, hB9⟩
      replace r_q7 := r_q7.base hs
      replace hb := hb.trans (hB9.mono hs)
      replace hs := Nat.le_trans hs (hB9.size)
      refine L_mv (L_run q7 (by kernel_rfl) (by kernel_rfl) (L_run .nilIface (by kernel_rfl) (by kernel_rfl) (L_as (L_as (L_nil (thenQ_normal (W_seq (W_region (L_mv (L_mv (L_call 5 [(S f), (S s)] (by kernel_rfl) (by kernel_rfl) (c_mirrors_Read_ok f s _ (by first | omega | (simp only [List.length_append, List.length_cons, List.length_nil]; omega)) (by exact hq6)) ?_)))))))))))
      rintro _ w12 ⟨q11, rfl, r_q11, hB13⟩
      have ap_r_q11_r_q7 := ap_call r_q11 r_q7; have ap_r_q7_r_q11 := ap_comm ap_r_q11_r_q7
      replace r_q11 := r_q11.base hs
      replace hb := hb.trans (hB13.mono hs)
      replace hs := Nat.le_trans hs (hB13.size)
      replace r_q7 := r_q7.below hB13
      refine L_mv (L_run q11 (by kernel_rfl) (by kernel_rfl) (L_run .nilIface (by kernel_rfl) (by kernel_rfl) (L_as (L_as (L_nil (thenQ_normal (W_seq (W_region (L_mv (L_call 6 [(S s)] (by kernel_rfl) (by kernel_rfl) (c_ref09_Read_ok s _ (by first | omega | (simp only [List.length_append, List.length_cons, List.length_nil]; omega)) (by exact hq6)) ?_))))))))))
      rintro _ w16 ⟨q15, rfl, r_q15, hB17⟩
      have ap_r_q15_r_q7 := ap_call r_q15 r_q7; have ap_r_q7_r_q15 := ap_comm ap_r_q15_r_q7
      have ap_r_q15_r_q11 := ap_call r_q15 r_q11; have ap_r_q11_r_q15 := ap_comm ap_r_q15_r_q11
      replace r_q15 := r_q15.base hs
      replace hb := hb.trans (hB17.mono hs)
      replace hs := Nat.le_trans hs (hB17.size)
      replace r_q7 := r_q7.below hB17
      replace r_q11 := r_q11.below hB17
      refine L_mv (L_run q15 (by kernel_rfl) (by kernel_rfl) (L_run (.int .i64 0) (by kernel_rfl) (by kernel_rfl) (L_run (.int .i64 0) (by kernel_rfl) (by kernel_rfl) (L_as (L_as (L_as (L_nil (thenQ_normal (W_seq (W_seq (W_region (L_mv (L_run (.bool false) (by kernel_rfl) (by kernel_rfl) (L_nil (thenQ_normal (W_false (by kernel_rfl) (W_skip (thenQ_normal (W_seq (W_seq (W_region (L_mv (L_run (.bool false) (by kernel_rfl) (by kernel_rfl) (L_mv (L_want (by kernel_rfl) (L_mv (L_want (by kernel_rfl) (L_run (.bool false) (by kernel_rfl) (by kernel_rfl) (L_pickF (by kernel_rfl) (L_mv (L_want (by kernel_rfl) (L_mv (L_want (by kernel_rfl) (L_mv (L_want (by kernel_rfl) (L_call 8 [q7, q15] (by kernel_rfl) (by kernel_rfl) (c_furrowlaw09_sameMirrors q7 ((mreadF s).1) q15 ((mreadF s).1) _ r_q7.rd r_q15.rd (by first | omega | (simp only [List.length_append, List.length_cons, List.length_nil]; omega)) (by first | omega | (simp only [List.length_append, List.length_cons, List.length_nil]; omega))) ?_))))))))))))))))))))))))))))))))))))
      rintro _ w19 ⟨rfl, hB20⟩
      replace hb := hb.trans (hB20.mono hs)
      replace hs := Nat.le_trans hs (hB20.size)
      replace r_q7 := r_q7.below hB20
      replace r_q11 := r_q11.below hB20
      replace r_q15 := r_q15.below hB20
      refine put_split (eqMs ((mreadF s).1) ((mreadF s).1)) ?_ ?_
      · intro h22
        refine L_want (by kernel_rfl) (L_not true (by kernel_rfl) (L_pickF (by kernel_rfl) (L_nil (thenQ_normal (W_false (by kernel_rfl) (W_skip (thenQ_normal (W_seq (W_seq (W_region (L_as (L_nil (thenQ_normal (W_block ?_))))))))))))))
        refine W_loop (fun m s0 w0 => ∃ (i : Nat) (xs : List Mir) (v_5 : Value), (m = xs.length - i) ∧ (s0.ds = []) ∧ (s0.f 4 = (.bool false)) ∧ (s0.f 7 = q11) ∧ (s0.f 9 = q15) ∧ (s0.f 5 = v_5) ∧ (s0.f 13 = (.int .i64 ((i : Nat) : Int))) ∧ (Row w0 w.heap.size 38 4 encMir q11 ((mreadF s).1)) ∧ (Row w0 w.heap.size 38 4 encMir q15 ((mreadF s).1)) ∧ (Row w0 w.heap.size 38 4 encMir v_5 xs) ∧ (Value.ownBlock q11 = none ∨ Value.ownBlock q11 ≠ Value.ownBlock v_5) ∧ (Value.ownBlock q15 = none ∨ Value.ownBlock q15 ≠ Value.ownBlock v_5) ∧ (Below w.heap.size w w0) ∧ (w.heap.size ≤ w0.heap.size) ∧ (i ≤ xs.length) ∧ (xs.length = (mreadF s).1.length)) _ ⟨0, ((mreadF s).1), q7, rfl, by kernel_rfl, by kernel_rfl, by kernel_rfl, by kernel_rfl, by kernel_rfl, by kernel_rfl, r_q11, r_q15, r_q7, ap_r_q11_r_q7, ap_r_q15_r_q7, hb, hs, (Nat.zero_le _), rfl⟩ ?_
        rintro m23 s24 w25 ⟨i, xs, v_5, hm, hds, f_4, f_7, f_9, f_5, f_13, r_q11, r_q15, r_5, ap_r_q11_r_5, ap_r_q15_r_5, hb, hs, i1, i2⟩
        refine W_set 4 _ f_4 (W_set 7 _ f_7 (W_set 9 _ f_9 (W_set 5 _ f_5 (W_set 13 _ f_13 ?_))))
        clear f_4 f_7 f_9 f_5 f_13
        have ap_r_5_r_q11 := ap_comm ap_r_q11_r_5
        have ap_r_5_r_q15 := ap_comm ap_r_q15_r_5
        refine W_seq (W_seq (W_region (L_mv (L_mv (L_len 23 38 (xs).length v_5 rfl Tryz.underlying23 (r_5.rd).len (by kernel_rfl) (L_cmp .i64 ((i : Nat) : Int) (((xs).length : Nat) : Int) (i < (xs).length) rfl (cmpN_lt i ((xs).length)) (by kernel_rfl) (by kernel_rfl) ?_ ?_))))))
        · intro h26
          replace h26 : i < (xs).length := by omega
          refine L_nil (thenQ_normal (W_true (by kernel_rfl) (W_skip (thenQ_normal (W_seq (W_block (W_region (L_mv (L_mv (L_run (Value.agg #[(.int .i64 (-1)), (.int .i32 0), (.int .i32 0), (.bool false)]) (by kernel_rfl) (by kernel_rfl) ?_))))))))))
          have hz := get_some xs i (by first | omega | (simp only [List.length_append, List.length_cons, List.length_nil]; omega)); obtain ⟨x27, hx28⟩ := hz
          have hz := (r_5.rd).at (k := 4) (fun _ => rfl) hx28
          obtain ⟨g29, off30, hl31, hc32⟩ := hz
          refine L_ixaddr (k := .i64) v_5 i _ g29 off30 el23 hl31 (by first | omega | (simp only [List.length_append, List.length_cons, List.length_nil]; omega)) (by kernel_rfl) (by kernel_rfl) (L_storeRowA i g29 off30 (-1, 0, 0, false) [(.int .i64 (-1)), (.int .i32 0), (.int .i32 0), (.bool false)] r_5 (fun _ => rfl) (by first | omega | (simp only [List.length_append, List.length_cons, List.length_nil]; omega)) hl31 (by kernel_rfl) (by kernel_rfl) rfl (by kernel_rfl) rfl ?_)
          intro w33 hr34 hg35
          replace hb := hb.grown hg35 hs (fun k hk => (World.ownsRow.lt r_5 k hk).1)
          replace hs := Nat.le_trans hs (hg35.size)
          have n_r_q11 := r_q11.grown hg35 ap_r_q11_r_5
          have n_r_q15 := r_q15.grown hg35 ap_r_q15_r_5
          replace r_q11 := n_r_q11; clear n_r_q11
          replace r_q15 := n_r_q15; clear n_r_q15
          replace r_5 := hr34
          have hx36 : (List.set xs i (-1, 0, 0, false))[i]? = some (-1, 0, 0, false) := set_here hx28
          refine L_nil (blkQ_normal (thenQ_normal (W_region (L_mv (L_addN i 1 (by omega) (by kernel_rfl) (by kernel_rfl) (L_as (L_nil ?_)))))))
          refine thenQ_normal ⟨_, ?_, (i + 1), (List.set xs i (-1, 0, 0, false)), v_5, rfl, hds, by kernel_rfl, by kernel_rfl, by kernel_rfl, by kernel_rfl, by kernel_rfl, r_q11, r_q15, r_5, ap_r_q11_r_5, ap_r_q15_r_5, hb, hs, ?_, ?_⟩
          · (simp only [List.length_set]; omega)
          · simp only [List.length_set]; omega
          · simp only [List.length_set]; omega
        · intro h37
          replace h37 : (xs).length ≤ i := by omega
          refine L_nil (thenQ_normal (W_false (by kernel_rfl) (W_exit (thenQ_exit (thenQ_exit (blkQ_exit (thenQ_normal (W_seq (W_seq (W_region (L_mv (L_nil (thenQ_normal (W_block ?_))))))))))))))
          refine W_loop (fun m s0 w0 => ∃ (j : Nat) (xs : List Mir) (v_5 : Value), (m = 40 - j) ∧ (s0.ds = []) ∧ (s0.f 4 = (.bool false)) ∧ (s0.f 7 = q11) ∧ (s0.f 9 = q15) ∧ (s0.f 5 = v_5) ∧ (s0.f 108 = (.int .i64 ((j : Nat) : Int))) ∧ (Row w0 w.heap.size 38 4 encMir q11 ((mreadF s).1)) ∧ (Row w0 w.heap.size 38 4 encMir q15 ((mreadF s).1)) ∧ (Row w0 w.heap.size 38 4 encMir v_5 xs) ∧ (Value.ownBlock q11 = none ∨ Value.ownBlock q11 ≠ Value.ownBlock v_5) ∧ (Value.ownBlock q15 = none ∨ Value.ownBlock q15 ≠ Value.ownBlock v_5) ∧ (Below w.heap.size w w0) ∧ (w.heap.size ≤ w0.heap.size) ∧ (j ≤ 40) ∧ (xs.length = (mreadF s).1.length + j)) _ ⟨0, xs, v_5, rfl, hds, by kernel_rfl, by kernel_rfl, by kernel_rfl, by kernel_rfl, by kernel_rfl, r_q11, r_q15, r_5, ap_r_q11_r_5, ap_r_q15_r_5, hb, hs, (by omega), (by omega)⟩ ?_
          rintro m38 s39 w40 ⟨j, xs, v_5, hm, hds, f_4, f_7, f_9, f_5, f_108, r_q11, r_q15, r_5, ap_r_q11_r_5, ap_r_q15_r_5, hb, hs, i3, i4⟩
          refine W_set 4 _ f_4 (W_set 7 _ f_7 (W_set 9 _ f_9 (W_set 5 _ f_5 (W_set 108 _ f_108 ?_))))
          clear f_4 f_7 f_9 f_5 f_108
          have ap_r_5_r_q11 := ap_comm ap_r_q11_r_5
          have ap_r_5_r_q15 := ap_comm ap_r_q15_r_5
          refine W_seq (W_region (L_cmp .i64 ((j : Nat) : Int) ((40 : Nat) : Int) (j < 40) rfl (cmpN_lt j 40) (by kernel_rfl) (by kernel_rfl) ?_ ?_))
          · intro h41
            replace h41 : j < 40 := by omega
            refine L_nil (thenQ_normal (W_seq (W_true (by kernel_rfl) (W_skip (thenQ_normal (W_seq (W_block (W_region (L_mv (L_run (Value.agg #[(.int .i64 (-2)), (.int .i32 0), (.int .i32 0), (.bool false)]) (by kernel_rfl) (by kernel_rfl) (L_app el23 w.heap.size v_5 xs (-2, 0, 0, false) hs r_5 (by first | omega | (simp only [List.length_append, List.length_cons, List.length_nil]; omega)) (by kernel_rfl) rfl rfl (by kernel_rfl) rfl (by kernel_rfl) (by kernel_rfl) ?_)))))))))))
            intro v42 w43 hr44 hg45 how46
            have nap_r_q11 := ap_app r_q11 how46 ap_r_q11_r_5
            have nap_r_q15 := ap_app r_q15 how46 ap_r_q15_r_5
            replace hb := hb.grown hg45 hs (fun k hk => (World.ownsRow.lt r_5 k hk).1)
            replace hs := Nat.le_trans hs (hg45.size)
            have n_r_q11 := r_q11.grown hg45 ap_r_q11_r_5
            have n_r_q15 := r_q15.grown hg45 ap_r_q15_r_5
            replace r_q11 := n_r_q11; clear n_r_q11
            replace r_q15 := n_r_q15; clear n_r_q15
            have ap_r_q11_r_5 := nap_r_q11; have ap_r_5_r_q11 := ap_comm nap_r_q11
            have ap_r_q15_r_5 := nap_r_q15; have ap_r_5_r_q15 := ap_comm nap_r_q15
            replace r_5 := hr44
            refine L_as (L_nil (blkQ_normal (thenQ_normal (W_region (L_addN j 1 (by omega) (by kernel_rfl) (by kernel_rfl) (L_mv (L_nil ?_)))))))
            refine thenQ_normal ⟨_, ?_, (j + 1), (xs ++ [(-2, 0, 0, false)]), v42, rfl, hds, by kernel_rfl, by kernel_rfl, by kernel_rfl, by kernel_rfl, by kernel_rfl, r_q11, r_q15, r_5, ap_r_q11_r_5, ap_r_q15_r_5, hb, hs, ?_, ?_⟩
            · omega
            · omega
            · simp only [List.length_append, List.length_cons, List.length_nil]; omega
          · intro h47
            replace h47 : 40 ≤ j := by omega
            refine L_nil (thenQ_normal (W_seq (W_false (by kernel_rfl) (W_exit (thenQ_exit (thenQ_exit (blkQ_exit (thenQ_normal (W_seq (W_region (L_mv (L_mv (L_call 8 [q11, q15] (by kernel_rfl) (by kernel_rfl) (c_furrowlaw09_sameMirrors q11 ((mreadF s).1) q15 ((mreadF s).1) _ r_q11.rd r_q15.rd (by first | omega | (simp only [List.length_append, List.length_cons, List.length_nil]; omega)) (by first | omega | (simp only [List.length_append, List.length_cons, List.length_nil]; omega))) ?_)))))))))))))
            rintro _ w48 ⟨rfl, hB49⟩
            replace hb := hb.trans (hB49.mono hs)
            replace hs := Nat.le_trans hs (hB49.size)
            replace r_q11 := r_q11.below hB49
            replace r_q15 := r_q15.below hB49
            replace r_5 := r_5.below hB49
            refine put_split (eqMs ((mreadF s).1) ((mreadF s).1)) ?_ ?_
            · intro h51
              refine L_mv (L_want (by kernel_rfl) (L_mv (L_want (by kernel_rfl) (L_len 23 38 (xs).length v_5 rfl Tryz.underlying23 (r_5.rd).len (by kernel_rfl) (L_want (by kernel_rfl) (L_mv (L_want (by kernel_rfl) (L_len 23 38 ((mreadF s).1).length q15 rfl Tryz.underlying23 (r_q15.rd).len (by kernel_rfl) (L_want (by kernel_rfl) (L_addN (((mreadF s).1).length) 40 (by omega) (by kernel_rfl) (by kernel_rfl) (L_want (by kernel_rfl) (L_cmp .i64 (((xs).length : Nat) : Int) (((((mreadF s).1).length + 40) : Nat) : Int) ((xs).length = (((mreadF s).1).length + 40)) rfl (cmpN_eq ((xs).length) (((mreadF s).1).length + 40)) (by kernel_rfl) (by kernel_rfl) ?_ ?_))))))))))))
              · intro h52
                replace h52 : (xs).length = (((mreadF s).1).length + 40) := by omega
                refine L_pickT (by kernel_rfl) (L_mv (L_want (by kernel_rfl) (L_call 4 [] (by kernel_rfl) (by kernel_rfl) (c_furrowlaw09_awake  _ (gcell_below hty hb)) ?_)))
                rintro _ w53 ⟨rfl, hB54⟩
                replace hb := hb.trans (hB54.mono hs)
                replace hs := Nat.le_trans hs (hB54.size)
                replace r_q11 := r_q11.below hB54
                replace r_q15 := r_q15.below hB54
                replace r_5 := r_5.below hB54
                refine L_pickT (by kernel_rfl) (L_as (L_nil (thenQ_normal (W_ret ?_))))
                refine end_ret [.tmp 4] [(.bool true)] rfl hds ⟨by kernel_rfl, trivial⟩ ?_
                have e0 : true = true := by first | rfl | (exfalso; omega) | (simp_all; done)
                exact ⟨congrArg Value.bool e0, hb⟩
              · intro h56
                replace h56 : (xs).length ≠ (((mreadF s).1).length + 40) := by omega
                refine L_pickT (by kernel_rfl) (L_mv (L_skip (by kernel_rfl) (L_pickF (by kernel_rfl) (L_as (L_nil (thenQ_normal (W_ret ?_)))))))
                refine end_ret [.tmp 4] [(.bool false)] rfl hds ⟨by kernel_rfl, trivial⟩ ?_
                have e0 : false = true := by first | rfl | (exfalso; omega) | (simp_all; done)
                exact ⟨congrArg Value.bool e0, hb⟩
            · intro h57
              exfalso; simp [eqMs] at h57
      · intro h58
        exfalso; simp [eqMs] at h58
    · skip
      refine L_call 5 [(S f), (S s)] (by kernel_rfl) (by kernel_rfl) (c_mirrors_Read_bad f s _ (by first | omega | (simp only [List.length_append, List.length_cons, List.length_nil]; omega)) (by first | omega | (simp only [List.length_append, List.length_cons, List.length_nil]; omega))) ?_
      rintro _ w59 ⟨cb62, rfl, o_cb62, g_cb62, hB60⟩
      replace g_cb62 := Nat.le_trans hs g_cb62
      replace hb := hb.trans (hB60.mono hs)
      replace hs := Nat.le_trans hs (hB60.size)
      refine L_mv (L_run (.slice none 0 0) (by kernel_rfl) (by kernel_rfl) (L_run (.iface 30 (.pointer (some ⟨cb62, 0, none⟩))) (by kernel_rfl) (by kernel_rfl) (L_as (L_as (L_nil (thenQ_normal (W_seq (W_region (L_mv (L_mv (L_call 5 [(S f), (S s)] (by kernel_rfl) (by kernel_rfl) (c_mirrors_Read_bad f s _ (by first | omega | (simp only [List.length_append, List.length_cons, List.length_nil]; omega)) (by exact hq6)) ?_)))))))))))
      rintro _ w63 ⟨cb66, rfl, o_cb66, g_cb66, hB64⟩
      have ne_cb62_cb66 : cb62 ≠ cb66 := by have := (obj_lt o_cb62); omega
      have ne_cb66_cb62 := ne_cb62_cb66.symm
      replace g_cb66 := Nat.le_trans hs g_cb66
      replace hb := hb.trans (hB64.mono hs)
      replace hs := Nat.le_trans hs (hB64.size)
      replace o_cb62 := obj_below o_cb62 hB64
      refine L_mv (L_run (.slice none 0 0) (by kernel_rfl) (by kernel_rfl) (L_run (.iface 30 (.pointer (some ⟨cb66, 0, none⟩))) (by kernel_rfl) (by kernel_rfl) (L_as (L_as (L_nil (thenQ_normal (W_seq (W_region (L_mv (L_call 6 [(S s)] (by kernel_rfl) (by kernel_rfl) (c_ref09_Read_bad s _ (by first | omega | (simp only [List.length_append, List.length_cons, List.length_nil]; omega)) (by exact hq6)) ?_))))))))))
      rintro _ w67 ⟨rfl, hB68⟩
      replace hb := hb.trans (hB68.mono hs)
      replace hs := Nat.le_trans hs (hB68.size)
      replace o_cb62 := obj_below o_cb62 hB68
      replace o_cb66 := obj_below o_cb66 hB68
      refine L_mv (L_run (.slice none 0 0) (by kernel_rfl) (by kernel_rfl) (L_run (.int .i64 ((mreadF s).2.1)) (by kernel_rfl) (by kernel_rfl) (L_run (.int .i64 ((mreadF s).2.2)) (by kernel_rfl) (by kernel_rfl) (L_as (L_as (L_as (L_nil (thenQ_normal (W_seq (W_seq (W_region (L_mv (L_cmp .i64 ((mreadF s).2.2) 0 ((mreadF s).2.2 ≠ 0) rfl (cmp_ne ((mreadF s).2.2) 0) (by kernel_rfl) (by kernel_rfl) ?_ ?_)))))))))))))
      · intro h70
        replace h70 : (mreadF s).2.2 ≠ 0 := by omega
        refine L_nil (thenQ_normal (W_true (by kernel_rfl) (W_seq (W_region (L_new (fun b => .pointer (some ⟨b, 0, none⟩)) (.cells [(.pointer none)].toArray 30 (0, 0)) (by kernel_rfl) (by kernel_rfl) ?_)))))
        intro b71 w72 hN73
        have ne_cb62_x12 : cb62 ≠ b71 := by have := (obj_lt o_cb62); have := hN73.num; omega
        have ne_x12_cb62 := ne_cb62_x12.symm
        have ne_cb66_x12 : cb66 ≠ b71 := by have := (obj_lt o_cb66); have := hN73.num; omega
        have ne_x12_cb66 := ne_cb66_x12.symm
        have g_x12 : w.heap.size ≤ b71 := by rw [hN73.num]; exact hs
        replace hb := hb.trans (hN73.below.mono hs)
        replace hs := Nat.le_trans hs (hN73.below.size)
        replace o_cb62 := obj_below o_cb62 hN73.below
        replace o_cb66 := obj_below o_cb66 hN73.below
        have o_x12 := hN73.here
        refine L_nil (thenQ_normal (W_seq (W_region (L_mv (L_run (.int .i64 0) (by kernel_rfl) (by kernel_rfl) (L_run (.bool true) (by kernel_rfl) (by kernel_rfl) (L_mv (L_want (by kernel_rfl) (L_mv (L_want (by kernel_rfl) (L_run (.int .i64 0) (by kernel_rfl) (by kernel_rfl) (L_want (by kernel_rfl) (L_run (.bool true) (by kernel_rfl) (by kernel_rfl) (L_pickT (by kernel_rfl) (L_mv (L_want (by kernel_rfl) (L_mv (L_want (by kernel_rfl) (L_run (.bool true) (by kernel_rfl) (by kernel_rfl) (L_pickT (by kernel_rfl) (L_mv (L_want (by kernel_rfl) (L_mv (L_want (by kernel_rfl) (L_run (.iface 32 (.pointer (some ⟨b71, 0, none⟩))) (by kernel_rfl) (by kernel_rfl) (L_want (by kernel_rfl) (L_call 7 [(.iface 30 (.pointer (some ⟨cb62, 0, none⟩))), (.iface 32 (.pointer (some ⟨b71, 0, none⟩)))] (by kernel_rfl) (by kernel_rfl) (as_fk cb62 b71 (.pointer none) _ (gcell_below hty hb) o_x12) ?_)))))))))))))))))))))))))))
        rintro _ w74 ⟨rfl, w75, hB76, hW77⟩
        replace hb := hb.trans (hB76.mono hs)
        replace hs := Nat.le_trans hs (hB76.size)
        replace o_cb62 := obj_below o_cb62 hB76
        replace o_cb66 := obj_below o_cb66 hB76
        replace o_x12 := obj_below o_x12 hB76
        replace hb := hb.trans (hW77.below g_x12)
        replace hs := Nat.le_trans hs (Nat.le_of_eq hW77.size.symm)
        have n_o_cb62 := obj_wrote o_cb62 hW77 (obj_ne o_cb62 o_x12 (by simp))
        have n_o_cb66 := obj_wrote o_cb66 hW77 (obj_ne o_cb66 o_x12 (by simp))
        replace o_cb62 := n_o_cb62; clear n_o_cb62
        replace o_cb66 := n_o_cb66; clear n_o_cb66
        replace o_x12 := hW77.here
        refine L_pickT (by kernel_rfl) (L_mv (L_want (by kernel_rfl) (L_load b71 0 (.pointer (some ⟨cb62, 0, none⟩)) (by kernel_rfl) (by kernel_rfl) (cell_obj o_x12 rfl) (L_want (by kernel_rfl) (L_run (.bool true) (by kernel_rfl) (by kernel_rfl) (L_pickT (by kernel_rfl) (L_mv (L_want (by kernel_rfl) (L_load b71 0 (.pointer (some ⟨cb62, 0, none⟩)) (by kernel_rfl) (by kernel_rfl) (cell_obj o_x12 rfl) (L_want (by kernel_rfl) (L_run (.pointer (some ⟨cb62, 0, none⟩)) (by kernel_rfl) (by kernel_rfl) (L_want (by kernel_rfl) (L_run (.pointer (some ⟨cb62, 0, none⟩)) (by kernel_rfl) (by kernel_rfl) (L_want (by kernel_rfl) (L_load cb62 0 (S f) (by kernel_rfl) (by kernel_rfl) (cell_obj o_cb62 rfl) (L_want (by kernel_rfl) (L_mv (L_want (by kernel_rfl) (L_seq f f rfl (by kernel_rfl) (by kernel_rfl) ?_ ?_)))))))))))))))))))
        · intro h78
          refine L_pickT (by kernel_rfl) (L_mv (L_want (by kernel_rfl) (L_load b71 0 (.pointer (some ⟨cb62, 0, none⟩)) (by kernel_rfl) (by kernel_rfl) (cell_obj o_x12 rfl) (L_want (by kernel_rfl) (L_run (.pointer (some ⟨cb62, 0, none⟩)) (by kernel_rfl) (by kernel_rfl) (L_want (by kernel_rfl) (L_run (.pointer (some ⟨cb62, 1, none⟩)) (by kernel_rfl) (by kernel_rfl) (L_want (by kernel_rfl) (L_load cb62 1 (.int .i64 ((mreadF s).2.1)) (by kernel_rfl) (by kernel_rfl) (cell_obj o_cb62 rfl) (L_want (by kernel_rfl) (L_mv (L_want (by kernel_rfl) (L_cmp .i64 ((mreadF s).2.1) ((mreadF s).2.1) ((mreadF s).2.1 = (mreadF s).2.1) rfl (cmp_eq ((mreadF s).2.1) ((mreadF s).2.1)) (by kernel_rfl) (by kernel_rfl) ?_ ?_)))))))))))))
          · intro h79
            replace h79 : (mreadF s).2.1 = (mreadF s).2.1 := by omega
            refine L_pickT (by kernel_rfl) (L_mv (L_want (by kernel_rfl) (L_load b71 0 (.pointer (some ⟨cb62, 0, none⟩)) (by kernel_rfl) (by kernel_rfl) (cell_obj o_x12 rfl) (L_want (by kernel_rfl) (L_run (.pointer (some ⟨cb62, 0, none⟩)) (by kernel_rfl) (by kernel_rfl) (L_want (by kernel_rfl) (L_run (.pointer (some ⟨cb62, 2, none⟩)) (by kernel_rfl) (by kernel_rfl) (L_want (by kernel_rfl) (L_load cb62 2 (.int .i64 ((mreadF s).2.2)) (by kernel_rfl) (by kernel_rfl) (cell_obj o_cb62 rfl) (L_want (by kernel_rfl) (L_mv (L_want (by kernel_rfl) (L_cmp .i64 ((mreadF s).2.2) ((mreadF s).2.2) ((mreadF s).2.2 = (mreadF s).2.2) rfl (cmp_eq ((mreadF s).2.2) ((mreadF s).2.2)) (by kernel_rfl) (by kernel_rfl) ?_ ?_)))))))))))))
            · intro h80
              replace h80 : (mreadF s).2.2 = (mreadF s).2.2 := by omega
              refine L_pickT (by kernel_rfl) (L_mv (L_want (by kernel_rfl) (L_call 4 [] (by kernel_rfl) (by kernel_rfl) (c_furrowlaw09_awake  _ (gcell_below hty hb)) ?_)))
              rintro _ w81 ⟨rfl, hB82⟩
              replace hb := hb.trans (hB82.mono hs)
              replace hs := Nat.le_trans hs (hB82.size)
              replace o_cb62 := obj_below o_cb62 hB82
              replace o_cb66 := obj_below o_cb66 hB82
              replace o_x12 := obj_below o_x12 hB82
              refine L_pickT (by kernel_rfl) (L_as (L_nil (thenQ_normal (W_ret (thenQ_ret ?_)))))
              refine end_ret [.tmp 4] [(.bool true)] rfl rfl ⟨by kernel_rfl, trivial⟩ ?_
              have e0 : true = true := by first | rfl | (exfalso; omega) | (simp_all; done)
              exact ⟨congrArg Value.bool e0, hb⟩
            · intro h84
              replace h84 : (mreadF s).2.2 ≠ (mreadF s).2.2 := by omega
              exact (h84 rfl).elim
          · intro h85
            replace h85 : (mreadF s).2.1 ≠ (mreadF s).2.1 := by omega
            exact (h85 rfl).elim
        · intro h86
          exact (h86 rfl).elim
      · intro h87
        replace h87 : (mreadF s).2.2 = 0 := by omega
        exfalso; omega

end Go.Proofs.YtjdcmeoiommglaaGreatDoor
