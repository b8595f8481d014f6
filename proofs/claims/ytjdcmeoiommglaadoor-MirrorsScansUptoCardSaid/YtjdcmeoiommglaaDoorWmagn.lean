/- Walks, written by my program walk.py out of the specification magn.py: each theorem says what one function returns and that it leaves memory as it was. -/
import Derived.Test.YtjdcmeoiommglaaDoorPAgn
import Derived.Test.YtjdcmeoiommglaaDoorWllines
import Derived.Test.YtjdcmeoiommglaaDoorWlscan
import Derived.Test.YtjdcmeoiommglaaDoorWlread
import Derived.Test.YtjdcmeoiommglaaDoorWlref
import Derived.Test.YtjdcmeoiommglaaDoorWmcor
import Derived.Test.YtjdcmeoiommglaaDoorWmmir
import Derived.Test.YtjdcmeoiommglaaDoorWmtpr
import Derived.Test.YtjdcmeoiommglaaDoorWmlaw
import Derived.Test.YtjdcmeoiommglaaDoorFKab
import Derived.Test.YtjdcmeoiommglaaDoorProg
import Derived.Tactics2
namespace Go.Proofs.YtjdcmeoiommglaaDoor
open Go Go.RowKit Go.FK
set_option linter.unusedVariables false
set_option linter.unusedSimpArgs false


set_option maxHeartbeats 4000000 in
set_option maxRecDepth 100000 in
theorem c_furrowlaw09_MirrorsBack (v_l : Value) (l : List (Mir)) (w : World) (p_l : Rd w encMir v_l l) (hty : w.cell? ⟨0, 0, none⟩ = some (.iface 115 (.agg #[.pointer (some ⟨4, 55, none⟩)]))) (hl : l.length ≤ 1048576) :
    Calls Tryd.prog 10 #[v_l] w (Ret fun v w' => v = (.bool true) ∧ Below w.heap.size w w') := by
  refine enter (args := [v_l]) Tryd.func10 rfl (by kernel_rfl : _ = 30) (by kernel_rfl) ?_
  have hb := Below.refl w.heap.size w
  have hs : w.heap.size ≤ w.heap.size := Nat.le_refl _
  have in_p_l := p_l
  have hpl := mprint_len l
  refine W_seq (W_region (L_as (L_nil (thenQ_normal (W_seq (W_seq (W_region (L_call 14 [] (by kernel_rfl) (by kernel_rfl) (c_furrowlaw09_awake  _ (gcell_below hty hb)) ?_))))))))
  rintro _ w1 ⟨rfl, hB2⟩
  replace hb := hb.trans (hB2.mono hs)
  replace hs := Nat.le_trans hs (hB2.size)
  replace p_l := p_l.below hB2
  refine L_not true (by kernel_rfl) (L_nil (thenQ_normal (W_false (by kernel_rfl) (W_skip (thenQ_normal (W_seq (W_region (L_mv (L_call 24 [v_l] (by kernel_rfl) (by kernel_rfl) (c_mirrors_Print v_l l _ p_l (by first | omega | (have := read_len (mprintF l).1; omega))) ?_)))))))))
  rintro _ w4 ⟨rfl, hB5⟩
  replace hb := hb.trans (hB5.mono hs)
  replace hs := Nat.le_trans hs (hB5.size)
  replace p_l := p_l.below hB5
  have := mprint_len l
  refine L_mv (L_run (S ((mprintF l).1)) (by kernel_rfl) (by kernel_rfl) (L_run (.int .i64 ((mprintF l).2)) (by kernel_rfl) (by kernel_rfl) (L_as (L_as (L_nil (thenQ_normal (W_seq (W_seq (W_region (L_mv (L_cmp .i64 ((mprintF l).2) 0 ((mprintF l).2 ≠ 0) rfl (cmp_ne ((mprintF l).2) 0) (by kernel_rfl) (by kernel_rfl) ?_ ?_)))))))))))
  · intro h7
    replace h7 : (mprintF l).2 ≠ 0 := by omega
    refine L_nil (thenQ_normal (W_true (by kernel_rfl) (W_seq (W_region (L_mv (L_seq ((mprintF l).1) ([] : List UInt8) rfl (by kernel_rfl) (by kernel_rfl) ?_ ?_))))))
    · intro h8
      refine L_as (L_nil (thenQ_normal (W_ret (thenQ_ret ?_))))
      refine end_ret [.tmp 2] [(.bool true)] rfl rfl ⟨by kernel_rfl, trivial⟩ ?_
      have e0 : true = true := by first | rfl | (exfalso; omega) | (simp_all; done)
      exact ⟨congrArg Value.bool e0, hb⟩
    · intro h9
      exfalso; exact h9 (print_none (by assumption))
  · intro h10
    replace h10 : (mprintF l).2 = 0 := by omega
    refine L_nil (thenQ_normal (W_false (by kernel_rfl) (W_skip (thenQ_normal (W_seq (W_region (L_mv ?_)))))))
    by_cases hq11 : (mreadF ((mprintF l).1)).2.2 = 0
    · skip
      refine L_call 26 [(S ([120] : List UInt8)), (S ((mprintF l).1))] (by kernel_rfl) (by kernel_rfl) (c_mirrors_Read_ok ([120] : List UInt8) ((mprintF l).1) _ (by first | omega | (have := read_len (mprintF l).1; omega)) (by first | omega | (have := read_len (mprintF l).1; omega))) ?_
      rintro _ w13 ⟨q12, rfl, r_q12, hB14⟩
      replace r_q12 := r_q12.base hs
      replace hb := hb.trans (hB14.mono hs)
      replace hs := Nat.le_trans hs (hB14.size)
      replace p_l := p_l.below hB14
      refine L_mv (L_run q12 (by kernel_rfl) (by kernel_rfl) (L_run .nilIface (by kernel_rfl) (by kernel_rfl) (L_as (L_as (L_nil (thenQ_normal (W_seq (W_region (L_mv (L_run (.bool true) (by kernel_rfl) (by kernel_rfl) (L_mv (L_want (by kernel_rfl) (L_mv (L_want (by kernel_rfl) (L_mv (L_want (by kernel_rfl) (L_call 27 [q12, v_l] (by kernel_rfl) (by kernel_rfl) (c_furrowlaw09_sameBut q12 ((mreadF ((mprintF l).1)).1) v_l l _ r_q12.rd p_l (by first | omega | (have := read_len (mprintF l).1; omega)) (by first | omega | (have := read_len (mprintF l).1; omega))) ?_)))))))))))))))))
      rintro _ w16 ⟨rfl, hB17⟩
      replace hb := hb.trans (hB17.mono hs)
      replace hs := Nat.le_trans hs (hB17.size)
      replace p_l := p_l.below hB17
      replace r_q12 := r_q12.below hB17
      refine put_split (eqBare ((mreadF ((mprintF l).1)).1) l) ?_ ?_
      · intro h19
        refine L_pickT (by kernel_rfl) (L_as (L_nil (thenQ_normal (W_ret ?_))))
        refine end_ret [.tmp 2] [(.bool true)] rfl rfl ⟨by kernel_rfl, trivial⟩ ?_
        have e0 : true = true := by first | rfl | (exfalso; omega) | (simp_all; done)
        exact ⟨congrArg Value.bool e0, hb⟩
      · intro h20
        exfalso; rw [(print_read (l := l) (by assumption)).2] at h20; cases h20
    · skip
      exfalso; exact hq11 (print_read (l := l) (by assumption)).1

set_option maxHeartbeats 4000000 in
set_option maxRecDepth 100000 in
theorem c_furrowlaw09_MirrorsAgain (s : List UInt8) (w : World) (hty : w.cell? ⟨0, 0, none⟩ = some (.iface 115 (.agg #[.pointer (some ⟨4, 55, none⟩)]))) (hs : s.length ≤ 1048576) :
    Calls Tryd.prog 11 #[(S s)] w (Ret fun v w' => v = (.bool true) ∧ Below w.heap.size w w') := by
  refine enter (args := [(S s)]) Tryd.func11 rfl (by kernel_rfl : _ = 41) (by kernel_rfl) ?_
  have hb := Below.refl w.heap.size w
  have hs : w.heap.size ≤ w.heap.size := Nat.le_refl _
  have hrl := read_len s
  have hpl := mprint_len (mreadF s).1
  have hrp := fun h => read_print (s := s) h
  refine W_seq (W_region (L_as (L_nil (thenQ_normal (W_seq (W_seq (W_region (L_call 14 [] (by kernel_rfl) (by kernel_rfl) (c_furrowlaw09_awake  _ (gcell_below hty hb)) ?_))))))))
  rintro _ w1 ⟨rfl, hB2⟩
  replace hb := hb.trans (hB2.mono hs)
  replace hs := Nat.le_trans hs (hB2.size)
  refine L_not true (by kernel_rfl) (L_nil (thenQ_normal (W_false (by kernel_rfl) (W_skip (thenQ_normal (W_seq (W_region (L_mv ?_))))))))
  by_cases hq4 : (mreadF s).2.2 = 0
  · skip
    refine L_call 26 [(S ([120] : List UInt8)), (S s)] (by kernel_rfl) (by kernel_rfl) (c_mirrors_Read_ok ([120] : List UInt8) s _ (by first | omega | (have := read_len (mprintF (mreadF s).1).1; omega)) (by first | omega | (have := read_len (mprintF (mreadF s).1).1; omega))) ?_
    rintro _ w6 ⟨q5, rfl, r_q5, hB7⟩
    replace r_q5 := r_q5.base hs
    replace hb := hb.trans (hB7.mono hs)
    replace hs := Nat.le_trans hs (hB7.size)
    refine L_mv (L_run q5 (by kernel_rfl) (by kernel_rfl) (L_run .nilIface (by kernel_rfl) (by kernel_rfl) (L_as (L_as (L_nil (thenQ_normal (W_seq (W_seq (W_region (L_mv (L_run (.bool false) (by kernel_rfl) (by kernel_rfl) (L_nil (thenQ_normal (W_false (by kernel_rfl) (W_skip (thenQ_normal (W_seq (W_region (L_mv (L_call 24 [q5] (by kernel_rfl) (by kernel_rfl) (c_mirrors_Print q5 ((mreadF s).1) _ r_q5.rd (by first | omega | (have := read_len (mprintF (mreadF s).1).1; omega))) ?_))))))))))))))))))))
    rintro _ w9 ⟨rfl, hB10⟩
    replace hb := hb.trans (hB10.mono hs)
    replace hs := Nat.le_trans hs (hB10.size)
    replace r_q5 := r_q5.below hB10
    have := mprint_len ((mreadF s).1)
    refine L_mv (L_run (S ((mprintF ((mreadF s).1)).1)) (by kernel_rfl) (by kernel_rfl) (L_run (.int .i64 ((mprintF ((mreadF s).1)).2)) (by kernel_rfl) (by kernel_rfl) (L_as (L_as (L_nil (thenQ_normal (W_seq (W_region (L_mv ?_)))))))))
    by_cases hq12 : (mreadF ((mprintF ((mreadF s).1)).1)).2.2 = 0
    · skip
      refine L_call 26 [(S ([121] : List UInt8)), (S ((mprintF ((mreadF s).1)).1))] (by kernel_rfl) (by kernel_rfl) (c_mirrors_Read_ok ([121] : List UInt8) ((mprintF ((mreadF s).1)).1) _ (by first | omega | (have := read_len (mprintF (mreadF s).1).1; omega)) (by first | omega | (have := read_len (mprintF (mreadF s).1).1; omega))) ?_
      rintro _ w14 ⟨q13, rfl, r_q13, hB15⟩
      have ap_r_q13_r_q5 := ap_call r_q13 r_q5; have ap_r_q5_r_q13 := ap_comm ap_r_q13_r_q5
      replace r_q13 := r_q13.base hs
      replace hb := hb.trans (hB15.mono hs)
      replace hs := Nat.le_trans hs (hB15.size)
      replace r_q5 := r_q5.below hB15
      refine L_mv (L_run q13 (by kernel_rfl) (by kernel_rfl) (L_run .nilIface (by kernel_rfl) (by kernel_rfl) (L_as (L_as (L_nil (thenQ_normal (W_seq (W_region (L_mv (L_cmp .i64 ((mprintF ((mreadF s).1)).2) 0 ((mprintF ((mreadF s).1)).2 = 0) rfl (cmp_eq ((mprintF ((mreadF s).1)).2) 0) (by kernel_rfl) (by kernel_rfl) ?_ ?_))))))))))
      · intro h17
        replace h17 : (mprintF ((mreadF s).1)).2 = 0 := by omega
        refine L_mv (L_want (by kernel_rfl) (L_mv (L_want (by kernel_rfl) (L_run (.bool true) (by kernel_rfl) (by kernel_rfl) (L_pickT (by kernel_rfl) (L_mv (L_want (by kernel_rfl) (L_mv (L_want (by kernel_rfl) (L_mv (L_want (by kernel_rfl) (L_call 27 [q13, q5] (by kernel_rfl) (by kernel_rfl) (c_furrowlaw09_sameBut q13 ((mreadF ((mprintF ((mreadF s).1)).1)).1) q5 ((mreadF s).1) _ r_q13.rd r_q5.rd (by first | omega | (have := read_len (mprintF (mreadF s).1).1; omega)) (by first | omega | (have := read_len (mprintF (mreadF s).1).1; omega))) ?_))))))))))))
        rintro _ w18 ⟨rfl, hB19⟩
        replace hb := hb.trans (hB19.mono hs)
        replace hs := Nat.le_trans hs (hB19.size)
        replace r_q5 := r_q5.below hB19
        replace r_q13 := r_q13.below hB19
        refine put_split (eqBare ((mreadF ((mprintF ((mreadF s).1)).1)).1) ((mreadF s).1)) ?_ ?_
        · intro h21
          refine L_pickT (by kernel_rfl) (L_as (L_nil (thenQ_normal (W_ret ?_))))
          refine end_ret [.tmp 2] [(.bool true)] rfl rfl ⟨by kernel_rfl, trivial⟩ ?_
          have e0 : true = true := by first | rfl | (exfalso; omega) | (simp_all; done)
          exact ⟨congrArg Value.bool e0, hb⟩
        · intro h22
          exfalso; rw [(print_read (l := (mreadF s).1) (hrp (by assumption))).2] at h22; cases h22
      · intro h23
        replace h23 : (mprintF ((mreadF s).1)).2 ≠ 0 := by omega
        exfalso; exact h23 (hrp (by assumption))
    · skip
      exfalso; exact hq12 (print_read (l := (mreadF s).1) (hrp (by assumption))).1
  · skip
    refine L_call 26 [(S ([120] : List UInt8)), (S s)] (by kernel_rfl) (by kernel_rfl) (c_mirrors_Read_bad ([120] : List UInt8) s _ (by first | omega | (have := read_len (mprintF (mreadF s).1).1; omega)) (by first | omega | (have := read_len (mprintF (mreadF s).1).1; omega))) ?_
    rintro _ w24 ⟨cb27, rfl, o_cb27, g_cb27, hB25⟩
    replace g_cb27 := Nat.le_trans hs g_cb27
    replace hb := hb.trans (hB25.mono hs)
    replace hs := Nat.le_trans hs (hB25.size)
    refine L_mv (L_run (.slice none 0 0) (by kernel_rfl) (by kernel_rfl) (L_run (.iface 63 (.pointer (some ⟨cb27, 0, none⟩))) (by kernel_rfl) (by kernel_rfl) (L_as (L_as (L_nil (thenQ_normal (W_seq (W_seq (W_region (L_mv (L_run (.bool true) (by kernel_rfl) (by kernel_rfl) (L_nil (thenQ_normal (W_true (by kernel_rfl) (W_seq (W_region (L_mv (L_run (.int .i64 0) (by kernel_rfl) (by kernel_rfl) (L_run (.bool true) (by kernel_rfl) (by kernel_rfl) (L_as (L_nil (thenQ_normal (W_ret (thenQ_ret ?_))))))))))))))))))))))))
    refine end_ret [.tmp 2] [(.bool true)] rfl rfl ⟨by kernel_rfl, trivial⟩ ?_
    have e0 : true = true := by first | rfl | (exfalso; omega) | (simp_all; done)
    exact ⟨congrArg Value.bool e0, hb⟩

set_option maxHeartbeats 4000000 in
set_option maxRecDepth 100000 in
theorem c_furrowlaw09_MirrorsScans (no : Int) (k : Int) (mn : List UInt8) (v_f : Value) (f : List (List UInt8)) (t : List UInt8) (w : World) (p_f : Rd w encStr v_f f) (hty : w.cell? ⟨0, 0, none⟩ = some (.iface 115 (.agg #[.pointer (some ⟨4, 55, none⟩)]))) (hb0 : Lib.lens f + f.length + t.length ≤ 1073741820) :
    Calls Tryd.prog 3 #[(Value.agg #[(.int .i64 no), (.int .u8 k), (S mn), v_f, (S t)])] w (Ret fun v w' => v = (.bool true) ∧ Below w.heap.size w w') := by
  refine enter (args := [(Value.agg #[(.int .i64 no), (.int .u8 k), (S mn), v_f, (S t)])]) Tryd.func3 rfl (by kernel_rfl : _ = 71) (by kernel_rfl) ?_
  have hb := Below.refl w.heap.size w
  have hs : w.heap.size ≤ w.heap.size := Nat.le_refl _
  have in_p_f := p_f
  have hf : ∀ y ∈ f, y.length ≤ 1073741824 := fun y hy => by have := lens_el hy; omega
  refine W_seq (W_region (L_new (fun b => .pointer (some ⟨b, 0, none⟩)) (.cells [(.int .i64 no), (.int .u8 k), (S mn), v_f, (S t)].toArray 25 (0, 0)) (by kernel_rfl) (by kernel_rfl) ?_))
  intro b1 w2 hN3
  have g_x1 : w.heap.size ≤ b1 := by rw [hN3.num]; exact hs
  replace hb := hb.trans (hN3.below.mono hs)
  replace hs := Nat.le_trans hs (hN3.below.size)
  replace p_f := p_f.below hN3.below
  have o_x1 := hN3.here
  refine L_as (L_nil (thenQ_normal (W_seq (W_region (L_as (L_nil (thenQ_normal (W_seq (W_region (L_mv (L_run (.pointer (some ⟨b1, 3, none⟩)) (by kernel_rfl) (by kernel_rfl) (L_load b1 3 v_f (by kernel_rfl) (by kernel_rfl) (cell_obj o_x1 rfl) (L_appAll el23 w.heap.size (.slice none 0 0) v_f ([] : List (List UInt8)) f hs (Row.nil _ w.heap.size 9 1 encStr) p_f (by first | omega | (simp; omega) | (simp only [List.length_append, List.length_nil]; omega)) (fun _ => rfl) (fun _ => rfl) (by kernel_rfl) (by kernel_rfl) (by kernel_rfl) ?_)))))))))))))
  intro v4 w5 hr6 hg7 how8 
  replace hb := hb.grown hg7 hs (fun k hk => by simp [Value.ownBlock] at hk)
  replace hs := Nat.le_trans hs (hg7.size)
  replace o_x1 := obj_grown o_x1 hg7 (by simp [Value.ownBlock])
  have p_f := in_p_f.below hb
  have r_13 := hr6
  refine L_as (L_nil (thenQ_normal (W_seq (W_region (L_mv (L_app el23 w.heap.size v4 (([] : List (List UInt8)) ++ f) ([109, 97, 114, 107] : List UInt8) hs r_13 (by first | omega | (simp; omega) | (simp only [List.length_append, List.length_nil]; omega)) (by kernel_rfl) rfl rfl (by kernel_rfl) rfl (by kernel_rfl) (by kernel_rfl) ?_))))))
  intro v9 w10 hr11 hg12 how13
  replace hb := hb.grown hg12 hs (fun k hk => (World.ownsRow.lt r_13 k hk).1)
  replace hs := Nat.le_trans hs (hg12.size)
  have n_o_x1 := obj_grown o_x1 hg12 (r_13.ne o_x1 (by simp))
  have n_p_f := in_p_f.below hb
  replace o_x1 := n_o_x1; clear n_o_x1
  replace p_f := n_p_f; clear n_p_f
  replace r_13 := hr11
  refine L_as (L_nil (thenQ_normal (W_seq (W_region (L_loadA b1 0 [(.int .i64 no), (.int .u8 k), (S mn), v_f, (S t)] (by kernel_rfl) (by kernel_rfl) (by kernel_rfl) (cells_at o_x1 0 (by kernel_rfl)) (L_new (fun b => .pointer (some ⟨b, 0, none⟩)) (.cells [(.int .i64 0), (.int .u8 0), (S ([] : List UInt8)), (.slice none 0 0), (S ([] : List UInt8))].toArray 25 (0, 0)) (by kernel_rfl) (by kernel_rfl) ?_))))))
  intro b14 w15 hN16
  have ne_x1_x4 : b1 ≠ b14 := by have := (obj_lt o_x1); have := hN16.num; omega
  have ne_x4_x1 := ne_x1_x4.symm
  have g_x4 : w.heap.size ≤ b14 := by rw [hN16.num]; exact hs
  replace hb := hb.trans (hN16.below.mono hs)
  replace hs := Nat.le_trans hs (hN16.below.size)
  replace o_x1 := obj_below o_x1 hN16.below
  replace p_f := p_f.below hN16.below
  replace r_13 := r_13.below hN16.below
  have o_x4 := hN16.here
  refine L_storeA b14 0 [(.int .i64 no), (.int .u8 k), (S mn), v_f, (S t)] [(.int .i64 0), (.int .u8 0), (S ([] : List UInt8)), (.slice none 0 0), (S ([] : List UInt8))] [(.int .i64 no), (.int .u8 k), (S mn), v_f, (S t)] 25 (by kernel_rfl) (by kernel_rfl) (allc rfl (allc rfl (allc rfl (allc (Rd.one p_f) (allc rfl rfl))))) (by kernel_rfl) o_x4 (by kernel_rfl) rfl ?_
  intro w17 hW18
  replace hb := hb.trans (hW18.below g_x4)
  replace hs := Nat.le_trans hs (Nat.le_of_eq hW18.size.symm)
  have n_o_x1 := obj_wrote o_x1 hW18 ne_x1_x4
  have n_p_f := in_p_f.below hb
  have n_r_13 := r_13.wrote hW18 (r_13.ne o_x4 (by simp))
  replace o_x1 := n_o_x1; clear n_o_x1
  replace p_f := n_p_f; clear n_p_f
  replace r_13 := n_r_13; clear n_r_13
  replace o_x4 := hW18.here
  refine L_nil (thenQ_normal (W_seq (W_region (L_mv (L_run (.pointer (some ⟨b1, 3, none⟩)) (by kernel_rfl) (by kernel_rfl) (L_load b1 3 v_f (by kernel_rfl) (by kernel_rfl) (cell_obj o_x1 rfl) (L_len 23 9 (f).length v_f rfl Tryd.underlying23 (p_f).len (by kernel_rfl) (L_sltoR el23 v9 ((([] : List (List UInt8)) ++ f) ++ [([109, 97, 114, 107] : List UInt8)]) ((f).length) r_13 (fun _ => rfl) (by first | omega | assumption | (simp; done) | (simp only [List.length_append, List.length_cons, List.length_nil]; omega)) (by kernel_rfl) ⟨.i64, by kernel_rfl⟩ ?_))))))))
  intro vp19 r_vp20 hsc21
  replace r_vp20 := r_vp20.cast (by simp : (List.take ((f).length) ((([] : List (List UInt8)) ++ f) ++ [([109, 97, 114, 107] : List UInt8)])) = f)
  refine L_run (.pointer (some ⟨b14, 3, none⟩)) (by kernel_rfl) (by kernel_rfl) (L_store b14 3 vp19 [(.int .i64 no), (.int .u8 k), (S mn), v_f, (S t)] [(.int .i64 no), (.int .u8 k), (S mn), vp19, (S t)] 25 (by kernel_rfl) (by kernel_rfl) r_vp20.one (by kernel_rfl) o_x4 (by simp) rfl ?_)
  intro w22 hW23
  replace hb := hb.trans (hW23.below g_x4)
  replace hs := Nat.le_trans hs (Nat.le_of_eq hW23.size.symm)
  have n_o_x1 := obj_wrote o_x1 hW23 ne_x1_x4
  have n_p_f := in_p_f.below hb
  have n_r_13 := r_13.wrote hW23 (r_13.ne o_x4 (by simp))
  have n_r_vp20 := r_vp20.wrote hW23 (r_vp20.ne o_x4 (by simp))
  replace o_x1 := n_o_x1; clear n_o_x1
  replace p_f := n_p_f; clear n_p_f
  replace r_13 := n_r_13; clear n_r_13
  replace r_vp20 := n_r_vp20; clear n_r_vp20
  replace o_x4 := hW23.here
  refine L_nil (thenQ_normal (W_seq (W_region (L_loadA b14 0 [(.int .i64 no), (.int .u8 k), (S mn), vp19, (S t)] (by kernel_rfl) (by kernel_rfl) (by kernel_rfl) (cells_at o_x4 0 (by kernel_rfl)) (L_call 12 [(Value.agg #[(.int .i64 no), (.int .u8 k), (S mn), vp19, (S t)])] (by kernel_rfl) (by kernel_rfl) (c_mirrors_Scan no k mn vp19 f t _ r_vp20.rd (by first | omega | assumption | (simp; done) | (simp only [List.length_append, List.length_cons, List.length_nil]; omega)) (by first | omega | assumption | (simp; done) | (simp only [List.length_append, List.length_cons, List.length_nil]; omega)) (by first | omega | assumption | (simp; done) | (simp only [List.length_append, List.length_cons, List.length_nil]; omega))) ?_)))))
  rintro _ w24 ⟨rfl, hB25⟩
  replace hb := hb.trans (hB25.mono hs)
  replace hs := Nat.le_trans hs (hB25.size)
  replace o_x1 := obj_below o_x1 hB25
  replace o_x4 := obj_below o_x4 hB25
  replace p_f := p_f.below hB25
  replace r_13 := r_13.below hB25
  replace r_vp20 := r_vp20.below hB25
  have := mscan_err no k f t
  refine L_mv (L_run (Value.agg #[(.int .i64 ((mscanF no k f t).1.1)), (.int .i32 ((mscanF no k f t).1.2.1)), (.int .i32 ((mscanF no k f t).1.2.2.1)), (.bool ((mscanF no k f t).1.2.2.2))]) (by kernel_rfl) (by kernel_rfl) (L_run (.int .i64 ((mscanF no k f t).2)) (by kernel_rfl) (by kernel_rfl) (L_new (fun b => .pointer (some ⟨b, 0, none⟩)) (.cells [(.int .i64 0), (.int .i32 0), (.int .i32 0), (.bool false)].toArray 27 (0, 0)) (by kernel_rfl) (by kernel_rfl) ?_)))
  intro b27 w28 hN29
  have ne_x1_x5 : b1 ≠ b27 := by have := (obj_lt o_x1); have := hN29.num; omega
  have ne_x5_x1 := ne_x1_x5.symm
  have ne_x4_x5 : b14 ≠ b27 := by have := (obj_lt o_x4); have := hN29.num; omega
  have ne_x5_x4 := ne_x4_x5.symm
  have g_x5 : w.heap.size ≤ b27 := by rw [hN29.num]; exact hs
  replace hb := hb.trans (hN29.below.mono hs)
  replace hs := Nat.le_trans hs (hN29.below.size)
  replace o_x1 := obj_below o_x1 hN29.below
  replace o_x4 := obj_below o_x4 hN29.below
  replace p_f := p_f.below hN29.below
  replace r_13 := r_13.below hN29.below
  replace r_vp20 := r_vp20.below hN29.below
  have o_x5 := hN29.here
  refine L_storeA b27 0 [(.int .i64 ((mscanF no k f t).1.1)), (.int .i32 ((mscanF no k f t).1.2.1)), (.int .i32 ((mscanF no k f t).1.2.2.1)), (.bool ((mscanF no k f t).1.2.2.2))] [(.int .i64 0), (.int .i32 0), (.int .i32 0), (.bool false)] [(.int .i64 ((mscanF no k f t).1.1)), (.int .i32 ((mscanF no k f t).1.2.1)), (.int .i32 ((mscanF no k f t).1.2.2.1)), (.bool ((mscanF no k f t).1.2.2.2))] 27 (by kernel_rfl) (by kernel_rfl) rfl (by kernel_rfl) o_x5 (by kernel_rfl) rfl ?_
  intro w30 hW31
  replace hb := hb.trans (hW31.below g_x5)
  replace hs := Nat.le_trans hs (Nat.le_of_eq hW31.size.symm)
  have n_o_x1 := obj_wrote o_x1 hW31 (obj_ne o_x1 o_x5 (by simp))
  have n_o_x4 := obj_wrote o_x4 hW31 (obj_ne o_x4 o_x5 (by simp))
  have n_p_f := in_p_f.below hb
  have n_r_13 := r_13.wrote hW31 (r_13.ne o_x5 (by simp))
  have n_r_vp20 := r_vp20.wrote hW31 (r_vp20.ne o_x5 (by simp))
  replace o_x1 := n_o_x1; clear n_o_x1
  replace o_x4 := n_o_x4; clear n_o_x4
  replace p_f := n_p_f; clear n_p_f
  replace r_13 := n_r_13; clear n_r_13
  replace r_vp20 := n_r_vp20; clear n_r_vp20
  replace o_x5 := hW31.here
  refine L_as (L_nil (thenQ_normal (W_seq (W_region (L_loadA b1 0 [(.int .i64 no), (.int .u8 k), (S mn), v_f, (S t)] (by kernel_rfl) (by kernel_rfl) (by kernel_rfl) (cells_at o_x1 0 (by kernel_rfl)) (L_call 13 [(Value.agg #[(.int .i64 no), (.int .u8 k), (S mn), v_f, (S t)])] (by kernel_rfl) (by kernel_rfl) (c_furrowref09_Scan no k mn v_f f t _ p_f (by first | omega | assumption | (simp; done) | (simp only [List.length_append, List.length_cons, List.length_nil]; omega)) (by first | omega | assumption | (simp; done) | (simp only [List.length_append, List.length_cons, List.length_nil]; omega)) (by first | omega | assumption | (simp; done) | (simp only [List.length_append, List.length_cons, List.length_nil]; omega))) ?_))))))
  rintro _ w32 ⟨rfl, hB33⟩
  replace hb := hb.trans (hB33.mono hs)
  replace hs := Nat.le_trans hs (hB33.size)
  replace o_x1 := obj_below o_x1 hB33
  replace o_x4 := obj_below o_x4 hB33
  replace o_x5 := obj_below o_x5 hB33
  replace p_f := p_f.below hB33
  replace r_13 := r_13.below hB33
  replace r_vp20 := r_vp20.below hB33
  have := mscan_err no k f t
  refine L_mv (L_run (Value.agg #[(.int .i64 ((mscanF no k f t).1.1)), (.int .i32 ((mscanF no k f t).1.2.1)), (.int .i32 ((mscanF no k f t).1.2.2.1)), (.bool ((mscanF no k f t).1.2.2.2))]) (by kernel_rfl) (by kernel_rfl) (L_run (.int .i64 ((mscanF no k f t).2)) (by kernel_rfl) (by kernel_rfl) (L_new (fun b => .pointer (some ⟨b, 0, none⟩)) (.cells [(.int .i64 0), (.int .i32 0), (.int .i32 0), (.bool false)].toArray 27 (0, 0)) (by kernel_rfl) (by kernel_rfl) ?_)))
  intro b35 w36 hN37
  have ne_x1_x7 : b1 ≠ b35 := by have := (obj_lt o_x1); have := hN37.num; omega
  have ne_x7_x1 := ne_x1_x7.symm
  have ne_x4_x7 : b14 ≠ b35 := by have := (obj_lt o_x4); have := hN37.num; omega
  have ne_x7_x4 := ne_x4_x7.symm
  have ne_x5_x7 : b27 ≠ b35 := by have := (obj_lt o_x5); have := hN37.num; omega
  have ne_x7_x5 := ne_x5_x7.symm
  have g_x7 : w.heap.size ≤ b35 := by rw [hN37.num]; exact hs
  replace hb := hb.trans (hN37.below.mono hs)
  replace hs := Nat.le_trans hs (hN37.below.size)
  replace o_x1 := obj_below o_x1 hN37.below
  replace o_x4 := obj_below o_x4 hN37.below
  replace o_x5 := obj_below o_x5 hN37.below
  replace p_f := p_f.below hN37.below
  replace r_13 := r_13.below hN37.below
  replace r_vp20 := r_vp20.below hN37.below
  have o_x7 := hN37.here
  refine L_storeA b35 0 [(.int .i64 ((mscanF no k f t).1.1)), (.int .i32 ((mscanF no k f t).1.2.1)), (.int .i32 ((mscanF no k f t).1.2.2.1)), (.bool ((mscanF no k f t).1.2.2.2))] [(.int .i64 0), (.int .i32 0), (.int .i32 0), (.bool false)] [(.int .i64 ((mscanF no k f t).1.1)), (.int .i32 ((mscanF no k f t).1.2.1)), (.int .i32 ((mscanF no k f t).1.2.2.1)), (.bool ((mscanF no k f t).1.2.2.2))] 27 (by kernel_rfl) (by kernel_rfl) rfl (by kernel_rfl) o_x7 (by kernel_rfl) rfl ?_
  intro w38 hW39
  replace hb := hb.trans (hW39.below g_x7)
  replace hs := Nat.le_trans hs (Nat.le_of_eq hW39.size.symm)
  have n_o_x1 := obj_wrote o_x1 hW39 (obj_ne o_x1 o_x7 (by simp))
  have n_o_x4 := obj_wrote o_x4 hW39 (obj_ne o_x4 o_x7 (by simp))
  have n_o_x5 := obj_wrote o_x5 hW39 ne_x5_x7
  have n_p_f := in_p_f.below hb
  have n_r_13 := r_13.wrote hW39 (r_13.ne o_x7 (by simp))
  have n_r_vp20 := r_vp20.wrote hW39 (r_vp20.ne o_x7 (by simp))
  replace o_x1 := n_o_x1; clear n_o_x1
  replace o_x4 := n_o_x4; clear n_o_x4
  replace o_x5 := n_o_x5; clear n_o_x5
  replace p_f := n_p_f; clear n_p_f
  replace r_13 := n_r_13; clear n_r_13
  replace r_vp20 := n_r_vp20; clear n_r_vp20
  replace o_x7 := hW39.here
  refine L_as (L_nil (thenQ_normal (W_seq (W_seq (W_region (L_as (L_nil (thenQ_normal (W_block ?_)))))))))
  refine W_loop (fun m s0 w0 => ∃ (i : Nat), (m = f.length - i) ∧ (s0.ds = []) ∧ (s0.f 1 = (.pointer (some ⟨b1, 0, none⟩))) ∧ (s0.f 3 = v9) ∧ (s0.f 5 = (.pointer (some ⟨b27, 0, none⟩))) ∧ (s0.f 6 = (.int .i64 ((mscanF no k f t).2))) ∧ (s0.f 7 = (.pointer (some ⟨b35, 0, none⟩))) ∧ (s0.f 8 = (.int .i64 ((mscanF no k f t).2))) ∧ (s0.f 9 = (.int .i64 ((i : Nat) : Int))) ∧ (Rd w0 encStr v_f f) ∧ (Row w0 w.heap.size 9 1 encStr v9 ((([] : List (List UInt8)) ++ f) ++ [([109, 97, 114, 107] : List UInt8)])) ∧ (Row w0 w.heap.size 9 1 encStr vp19 f) ∧ (w0.heap[b1]? = some (.cells [(.int .i64 no), (.int .u8 k), (S mn), v_f, (S t)].toArray 25 (0, 0))) ∧ (w0.heap[b14]? = some (.cells [(.int .i64 no), (.int .u8 k), (S mn), vp19, (S t)].toArray 25 (0, 0))) ∧ (w0.heap[b27]? = some (.cells [(.int .i64 ((mscanF no k f t).1.1)), (.int .i32 ((mscanF no k f t).1.2.1)), (.int .i32 ((mscanF no k f t).1.2.2.1)), (.bool ((mscanF no k f t).1.2.2.2))].toArray 27 (0, 0))) ∧ (w0.heap[b35]? = some (.cells [(.int .i64 ((mscanF no k f t).1.1)), (.int .i32 ((mscanF no k f t).1.2.1)), (.int .i32 ((mscanF no k f t).1.2.2.1)), (.bool ((mscanF no k f t).1.2.2.2))].toArray 27 (0, 0))) ∧ (Below w.heap.size w w0) ∧ (w.heap.size ≤ w0.heap.size) ∧ (i ≤ f.length)) _ ⟨0, rfl, by kernel_rfl, by kernel_rfl, by kernel_rfl, by kernel_rfl, by kernel_rfl, by kernel_rfl, by kernel_rfl, by kernel_rfl, p_f, r_13, r_vp20, o_x1, o_x4, o_x5, o_x7, hb, hs, (Nat.zero_le _)⟩ ?_
  rintro m40 s41 w42 ⟨i, hm, hds, f_1, f_3, f_5, f_6, f_7, f_8, f_9, p_f, r_13, r_vp20, o_x1, o_x4, o_x5, o_x7, hb, hs, i1⟩
  refine W_set 1 _ f_1 (W_set 3 _ f_3 (W_set 5 _ f_5 (W_set 6 _ f_6 (W_set 7 _ f_7 (W_set 8 _ f_8 (W_set 9 _ f_9 ?_))))))
  clear f_1 f_3 f_5 f_6 f_7 f_8 f_9
  refine W_seq (W_seq (W_region (L_mv (L_run (.pointer (some ⟨b1, 3, none⟩)) (by kernel_rfl) (by kernel_rfl) (L_load b1 3 v_f (by kernel_rfl) (by kernel_rfl) (cell_obj o_x1 rfl) (L_len 23 9 (f).length v_f rfl Tryd.underlying23 (p_f).len (by kernel_rfl) (L_cmp .i64 ((i : Nat) : Int) (((f).length : Nat) : Int) (i < (f).length) rfl (cmpN_lt i ((f).length)) (by kernel_rfl) (by kernel_rfl) ?_ ?_)))))))
  · intro h43
    replace h43 : i < (f).length := by omega
    refine L_nil (thenQ_normal (W_true (by kernel_rfl) (W_skip (thenQ_normal (W_seq (W_block (W_seq (W_quiet (by kernel_rfl) (by kernel_rfl) (Lq_mv (Lq_mv ?_))))))))))
    have hz := get_some ((([] : List (List UInt8)) ++ f) ++ [([109, 97, 114, 107] : List UInt8)]) i (by first | omega | assumption | (simp; done) | (simp only [List.length_append, List.length_cons, List.length_nil]; omega)); obtain ⟨x44, hx45⟩ := hz
    have hz := (r_13.rd).at (k := 1) (fun _ => rfl) hx45
    obtain ⟨g46, off47, hl48, hc49⟩ := hz
    refine Lq_ixaddr (k := .i64) v9 i _ g46 off47 el23 hl48 (by first | omega | assumption | (simp; done) | (simp only [List.length_append, List.length_cons, List.length_nil]; omega)) (by kernel_rfl) (by kernel_rfl) (Lq_load g46 (off47 + i * 1) (S x44) (by kernel_rfl) (fun _ => by kernel_rfl) (hc49 0 _ rfl) (Lq_run (.pointer (some ⟨b1, 3, none⟩)) (fun _ => by kernel_rfl) (Lq_load b1 3 v_f (by kernel_rfl) (fun _ => by kernel_rfl) (cell_obj o_x1 rfl) (Lq_mv ?_))))
    have hz := get_some f i (by first | omega | assumption | (simp; done) | (simp only [List.length_append, List.length_cons, List.length_nil]; omega)); obtain ⟨x50, hx51⟩ := hz
    have hz := (p_f).at (k := 1) (fun _ => rfl) hx51
    obtain ⟨g52, off53, hl54, hc55⟩ := hz
    refine Lq_ixaddr (k := .i64) v_f i _ g52 off53 el23 hl54 (by first | omega | assumption | (simp; done) | (simp only [List.length_append, List.length_cons, List.length_nil]; omega)) (by kernel_rfl) (by kernel_rfl) (Lq_load g52 (off53 + i * 1) (S x50) (by kernel_rfl) (fun _ => by kernel_rfl) (hc55 0 _ rfl) (Lq_sne x44 x50 rfl (by kernel_rfl) (by kernel_rfl) ?_ ?_))
    · intro h56
      exfalso; exact h56 (snoc_same (f := f) (by assumption) (by assumption))
    · intro h57
      refine Lq_nil ?_
      intro w58 hB59
      replace hb := hb.trans (hB59.mono hs)
      replace hs := Nat.le_trans hs (hB59.size)
      replace o_x1 := obj_below o_x1 hB59
      replace o_x4 := obj_below o_x4 hB59
      replace o_x5 := obj_below o_x5 hB59
      replace o_x7 := obj_below o_x7 hB59
      replace p_f := p_f.below hB59
      replace r_13 := r_13.below hB59
      replace r_vp20 := r_vp20.below hB59
      refine thenQ_normal (W_false (by kernel_rfl) (W_skip (blkQ_normal (thenQ_normal (W_region (L_mv (L_addN i 1 (by omega) (by kernel_rfl) (by kernel_rfl) (L_as (L_nil ?_)))))))))
      refine thenQ_normal ⟨_, ?_, (i + 1), rfl, hds, by kernel_rfl, by kernel_rfl, by kernel_rfl, by kernel_rfl, by kernel_rfl, by kernel_rfl, by kernel_rfl, p_f, r_13, r_vp20, o_x1, o_x4, o_x5, o_x7, hb, hs, ?_⟩
      · omega
      · omega
  · intro h60
    replace h60 : (f).length ≤ i := by omega
    refine L_nil (thenQ_normal (W_false (by kernel_rfl) (W_exit (thenQ_exit (thenQ_exit (blkQ_exit (thenQ_normal (W_seq (W_region (L_loadA b27 0 [(.int .i64 ((mscanF no k f t).1.1)), (.int .i32 ((mscanF no k f t).1.2.1)), (.int .i32 ((mscanF no k f t).1.2.2.1)), (.bool ((mscanF no k f t).1.2.2.2))] (by kernel_rfl) (by kernel_rfl) (by kernel_rfl) (cells_at o_x5 0 (by kernel_rfl)) (L_loadA b35 0 [(.int .i64 ((mscanF no k f t).1.1)), (.int .i32 ((mscanF no k f t).1.2.1)), (.int .i32 ((mscanF no k f t).1.2.2.1)), (.bool ((mscanF no k f t).1.2.2.2))] (by kernel_rfl) (by kernel_rfl) (by kernel_rfl) (cells_at o_x7 0 (by kernel_rfl)) (L_aggeq [(.int .i64 ((mscanF no k f t).1.1)), (.int .i32 ((mscanF no k f t).1.2.1)), (.int .i32 ((mscanF no k f t).1.2.2.1)), (.bool ((mscanF no k f t).1.2.2.2))] [(.int .i64 ((mscanF no k f t).1.1)), (.int .i32 ((mscanF no k f t).1.2.1)), (.int .i32 ((mscanF no k f t).1.2.2.1)), (.bool ((mscanF no k f t).1.2.2.2))] (((mscanF no k f t).1.1) == ((mscanF no k f t).1.1) && ((mscanF no k f t).1.2.1) == ((mscanF no k f t).1.2.1) && ((mscanF no k f t).1.2.2.1) == ((mscanF no k f t).1.2.2.1) && ((mscanF no k f t).1.2.2.2) == ((mscanF no k f t).1.2.2.2)) (by kernel_rfl) (by kernel_rfl) (by kernel_rfl) (eqagg27 ((mscanF no k f t).1.1) ((mscanF no k f t).1.2.1) ((mscanF no k f t).1.2.2.1) ((mscanF no k f t).1.2.2.2) ((mscanF no k f t).1.1) ((mscanF no k f t).1.2.1) ((mscanF no k f t).1.2.2.1) ((mscanF no k f t).1.2.2.2)) ?_ ?_))))))))))))
    · intro h61
      refine L_mv (L_want (by kernel_rfl) (L_mv (L_want (by kernel_rfl) (L_mv (L_want (by kernel_rfl) (L_cmp .i64 ((mscanF no k f t).2) ((mscanF no k f t).2) ((mscanF no k f t).2 = (mscanF no k f t).2) rfl (cmp_eq ((mscanF no k f t).2) ((mscanF no k f t).2)) (by kernel_rfl) (by kernel_rfl) ?_ ?_))))))
      · intro h62
        replace h62 : (mscanF no k f t).2 = (mscanF no k f t).2 := by omega
        refine L_pickT (by kernel_rfl) (L_mv (L_want (by kernel_rfl) (L_mv (L_want (by kernel_rfl) (L_run (.pointer (some ⟨b1, 3, none⟩)) (by kernel_rfl) (by kernel_rfl) (L_want (by kernel_rfl) (L_load b1 3 v_f (by kernel_rfl) (by kernel_rfl) (cell_obj o_x1 rfl) (L_want (by kernel_rfl) (L_len 23 9 (f).length v_f rfl Tryd.underlying23 (p_f).len (by kernel_rfl) (L_want (by kernel_rfl) ?_))))))))))
        have hz := get_some ((([] : List (List UInt8)) ++ f) ++ [([109, 97, 114, 107] : List UInt8)]) ((f).length) (by first | omega | assumption | (simp; done) | (simp only [List.length_append, List.length_cons, List.length_nil]; omega)); obtain ⟨x63, hx64⟩ := hz
        have hz := (r_13.rd).at (k := 1) (fun _ => rfl) hx64
        obtain ⟨g65, off66, hl67, hc68⟩ := hz
        refine L_ixaddr (k := .i64) v9 ((f).length) _ g65 off66 el23 hl67 (by first | omega | assumption | (simp; done) | (simp only [List.length_append, List.length_cons, List.length_nil]; omega)) (by kernel_rfl) (by kernel_rfl) (L_want (by kernel_rfl) (L_load g65 (off66 + ((f).length) * 1) (S x63) (by kernel_rfl) (by kernel_rfl) (hc68 0 _ rfl) (L_want (by kernel_rfl) (L_seq x63 ([109, 97, 114, 107] : List UInt8) rfl (by kernel_rfl) (by kernel_rfl) ?_ ?_))))
        · intro h69
          refine L_pickT (by kernel_rfl) (L_mv (L_want (by kernel_rfl) (L_call 14 [] (by kernel_rfl) (by kernel_rfl) (c_furrowlaw09_awake  _ (gcell_below hty hb)) ?_)))
          rintro _ w70 ⟨rfl, hB71⟩
          replace hb := hb.trans (hB71.mono hs)
          replace hs := Nat.le_trans hs (hB71.size)
          replace o_x1 := obj_below o_x1 hB71
          replace o_x4 := obj_below o_x4 hB71
          replace o_x5 := obj_below o_x5 hB71
          replace o_x7 := obj_below o_x7 hB71
          replace p_f := p_f.below hB71
          replace r_13 := r_13.below hB71
          replace r_vp20 := r_vp20.below hB71
          refine L_pickT (by kernel_rfl) (L_as (L_nil (thenQ_normal (W_ret ?_))))
          refine end_ret [.tmp 2] [(.bool true)] rfl hds ⟨by kernel_rfl, trivial⟩ ?_
          have e0 : true = true := by first | rfl | (exfalso; exact absurd rfl (by assumption)) | (exfalso; omega) | (simp_all; done)
          exact ⟨congrArg Value.bool e0, hb⟩
        · intro h73
          exfalso; exact h73 (snoc_end (f := f) (by assumption) rfl)
      · intro h74
        replace h74 : (mscanF no k f t).2 ≠ (mscanF no k f t).2 := by omega
        exact (h74 rfl).elim
    · intro h75
      simp at h75

end Go.Proofs.YtjdcmeoiommglaaDoor
