/- Walks, written by my program walk.py out of the specification mlaw.py: each theorem says what one function returns and that it leaves memory as it was. -/
import Derived.Test.YtjdcmeoiommglaaDoorPTxt
import Derived.Test.YtjdcmeoiommglaaDoorWllines
import Derived.Test.YtjdcmeoiommglaaDoorWlscan
import Derived.Test.YtjdcmeoiommglaaDoorWlread
import Derived.Test.YtjdcmeoiommglaaDoorWlref
import Derived.Test.YtjdcmeoiommglaaDoorWmcor
import Derived.Test.YtjdcmeoiommglaaDoorWmmir
import Derived.Test.YtjdcmeoiommglaaDoorWmtpr
import Derived.Test.YtjdcmeoiommglaaDoorFKab
import Derived.Test.YtjdcmeoiommglaaDoorProg
import Derived.Tactics2
import Derived.Test.YtjdcmeoiommglaaDoorAs
import Derived.Test.YtjdcmeoiommglaaDoorPLprt
namespace Go.Proofs.YtjdcmeoiommglaaDoor
open Go Go.RowKit Go.FK
set_option linter.unusedVariables false
set_option linter.unusedSimpArgs false



set_option maxHeartbeats 4000000 in
set_option maxRecDepth 100000 in
theorem c_furrowlaw09_brackets (w : World) :
    Calls Tryd.prog 31 #[] w (Ret fun v w' => ∃ (q0 : Value), v = q0 ∧ Row w' w.heap.size 27 4 encMir q0 brackM ∧ Below w.heap.size w w') := by
  refine enter (args := []) Tryd.func31 rfl (by kernel_rfl : _ = 6) (by kernel_rfl) ?_
  have hb := Below.refl w.heap.size w
  have hs : w.heap.size ≤ w.heap.size := Nat.le_refl _
  refine W_seq (W_region (L_as (L_nil (thenQ_normal (W_seq (W_region (L_run (Value.agg #[(.int .i64 0), (.int .i32 40), (.int .i32 41), (.bool false)]) (by kernel_rfl) (by kernel_rfl) (L_run (Value.agg #[(.int .i64 0), (.int .i32 41), (.int .i32 40), (.bool false)]) (by kernel_rfl) (by kernel_rfl) (L_run (Value.agg #[(.int .i64 0), (.int .i32 171), (.int .i32 187), (.bool false)]) (by kernel_rfl) (by kernel_rfl) (L_run (Value.agg #[(.int .i64 0), (.int .i32 187), (.int .i32 171), (.bool false)]) (by kernel_rfl) (by kernel_rfl) (L_new (fun b => .slice (some ⟨b, 0, none⟩) 4 4) (.cells [(.int .i64 0), (.int .i32 40), (.int .i32 41), (.bool false), (.int .i64 0), (.int .i32 41), (.int .i32 40), (.bool false), (.int .i64 0), (.int .i32 171), (.int .i32 187), (.bool false), (.int .i64 0), (.int .i32 187), (.int .i32 171), (.bool false)].toArray 27 (0, 0)) (by kernel_rfl) (by kernel_rfl) ?_)))))))))))
  intro b1 w2 hN3
  have g_b1 : w.heap.size ≤ b1 := by rw [hN3.num]; exact hs
  replace hb := hb.trans (hN3.below.mono hs)
  replace hs := Nat.le_trans hs (hN3.below.size)
  have r_b1 : Row w2 w.heap.size 27 4 encMir (.slice (some ⟨b1, 0, none⟩) 4 4) ([(0, 40, 41, false), (0, 41, 40, false), (0, 171, 187, false), (0, 187, 171, false)] : List (Mir)) := Row.made ([(0, 40, 41, false), (0, 41, 40, false), (0, 171, 187, false), (0, 187, 171, false)] : List (Mir)) hN3 g_b1 rfl rfl (by first | decide | (simp; done))
  refine L_as (L_nil (thenQ_normal (W_ret ?_)))
  refine end_ret [.tmp 0] [(.slice (some ⟨b1, 0, none⟩) 4 4)] rfl rfl ⟨by kernel_rfl, trivial⟩ ?_
  have e51 : ([(0, 40, 41, false), (0, 41, 40, false), (0, 171, 187, false), (0, 187, 171, false)] : List (Mir)) = brackM := by rfl
  exact ⟨(.slice (some ⟨b1, 0, none⟩) 4 4), rfl, r_b1.cast e51, hb⟩

set_option maxHeartbeats 4000000 in
set_option maxRecDepth 100000 in
theorem c_furrowlaw09_awake (w : World) (hty : w.cell? ⟨0, 0, none⟩ = some (.iface 115 (.agg #[.pointer (some ⟨4, 55, none⟩)]))) :
    Calls Tryd.prog 14 #[] w (Ret fun v w' => v = (.bool true) ∧ Below w.heap.size w w') := by
  refine enter (args := []) Tryd.func14 rfl (by kernel_rfl : _ = 65) (by kernel_rfl) ?_
  have hb := Below.refl w.heap.size w
  have hs : w.heap.size ≤ w.heap.size := Nat.le_refl _
  refine W_seq (W_region (L_as (L_nil (thenQ_normal (W_seq (W_region (L_call 26 [(S ([102] : List UInt8)), (S ([48, 48, 50, 56, 59, 32, 48, 48, 50, 57, 10, 48, 48, 50, 57, 59, 32, 48, 48, 50, 56, 32, 35, 32, 91, 66, 69, 83, 84, 32, 70, 73, 84, 93, 10] : List UInt8))] (by kernel_rfl) (by kernel_rfl) (calls_as (c_mirrors_Read_ok ([102] : List UInt8) ([48, 48, 50, 56, 59, 32, 48, 48, 50, 57, 10, 48, 48, 50, 57, 59, 32, 48, 48, 50, 56, 32, 35, 32, 91, 66, 69, 83, 84, 32, 70, 73, 84, 93, 10] : List UInt8) _ (by first | omega | (simp; done) | (simp [brackM]; done) | decide) (by kernel_rfl)) (by kernel_rfl : _ = fun v w' => ∃ (q0 : Value), v = (.tuple #[q0, .nilIface]) ∧ Row w' w.heap.size 27 4 encMir q0 ([((1, 40, 41, false) : Mir), ((2, 41, 40, true) : Mir)] : List Mir) ∧ Below w.heap.size w w')) ?_)))))))
  rintro _ w2 ⟨q1, rfl, r_q1, hB3⟩
  replace r_q1 := r_q1.base hs
  replace hb := hb.trans (hB3.mono hs)
  replace hs := Nat.le_trans hs (hB3.size)
  refine L_mv (L_run q1 (by kernel_rfl) (by kernel_rfl) (L_run .nilIface (by kernel_rfl) (by kernel_rfl) (L_as (L_as (L_nil (thenQ_normal (W_seq (W_region (L_call 26 [(S ([102] : List UInt8)), (S ([48, 48, 50, 56, 59, 32, 48, 48, 50, 57, 10] : List UInt8))] (by kernel_rfl) (by kernel_rfl) (calls_as (c_mirrors_Read_bad ([102] : List UInt8) ([48, 48, 50, 56, 59, 32, 48, 48, 50, 57, 10] : List UInt8) _ (by first | omega | (simp; done) | (simp [brackM]; done) | decide) (by (rw [show (mreadF ([48, 48, 50, 56, 59, 32, 48, 48, 50, 57, 10] : List UInt8)).2.2 = 90 from (by kernel_rfl)]; decide))) (by kernel_rfl : _ = fun v w' => ∃ (cb0 : Nat), v = (.tuple #[(.slice none 0 0), (.iface 63 (.pointer (some ⟨cb0, 0, none⟩)))]) ∧ w'.heap[cb0]? = some (.cells [(S ([102] : List UInt8)), (.int .i64 1), (.int .i64 90)].toArray 67 (0, 0)) ∧ w2.heap.size ≤ cb0 ∧ Below w2.heap.size w2 w')) ?_)))))))))
  rintro _ w5 ⟨cb8, rfl, o_cb8, g_cb8, hB6⟩
  replace g_cb8 := Nat.le_trans hs g_cb8
  replace hb := hb.trans (hB6.mono hs)
  replace hs := Nat.le_trans hs (hB6.size)
  replace r_q1 := r_q1.below hB6
  refine L_mv (L_run (.slice none 0 0) (by kernel_rfl) (by kernel_rfl) (L_run (.iface 63 (.pointer (some ⟨cb8, 0, none⟩))) (by kernel_rfl) (by kernel_rfl) (L_as (L_as (L_nil (thenQ_normal (W_seq (W_region (L_call 31 [] (by kernel_rfl) (by kernel_rfl) (c_furrowlaw09_brackets  _ ) ?_)))))))))
  rintro q9 w10 ⟨_, rfl, r_q9, hB11⟩
  have ap_r_q9_r_q1 := ap_call r_q9 r_q1; have ap_r_q1_r_q9 := ap_comm ap_r_q9_r_q1
  replace r_q9 := r_q9.base hs
  replace hb := hb.trans (hB11.mono hs)
  replace hs := Nat.le_trans hs (hB11.size)
  replace o_cb8 := obj_below o_cb8 hB11
  replace r_q1 := r_q1.below hB11
  refine L_call 17 [q9, (S ([97, 40, 255] : List UInt8))] (by kernel_rfl) (by kernel_rfl) (calls_as (c_mirrors_Text q9 brackM ([97, 40, 255] : List UInt8) _ r_q9.rd (by first | omega | (simp; done) | (simp [brackM]; done) | decide) (by first | omega | (simp; done) | (simp [brackM]; done) | decide)) (by kernel_rfl : _ = fun v w' => v = (.tuple #[(S ([97, 41, 255] : List UInt8)), (.int .i64 1)]) ∧ Below w10.heap.size w10 w')) ?_
  rintro _ w13 ⟨rfl, hB14⟩
  replace hb := hb.trans (hB14.mono hs)
  replace hs := Nat.le_trans hs (hB14.size)
  replace o_cb8 := obj_below o_cb8 hB14
  replace r_q1 := r_q1.below hB14
  replace r_q9 := r_q9.below hB14
  refine L_mv (L_run (S ([97, 41, 255] : List UInt8)) (by kernel_rfl) (by kernel_rfl) (L_run (.int .i64 1) (by kernel_rfl) (by kernel_rfl) (L_as (L_as (L_nil (thenQ_normal (W_seq (W_region (L_new (fun b => .pointer (some ⟨b, 0, none⟩)) (.cells [(.pointer none)].toArray 63 (0, 0)) (by kernel_rfl) (by kernel_rfl) ?_)))))))))
  intro b16 w17 hN18
  have ne_cb8_x7 : cb8 ≠ b16 := by have := (obj_lt o_cb8); have := hN18.num; omega
  have ne_x7_cb8 := ne_cb8_x7.symm
  have g_x7 : w.heap.size ≤ b16 := by rw [hN18.num]; exact hs
  replace hb := hb.trans (hN18.below.mono hs)
  replace hs := Nat.le_trans hs (hN18.below.size)
  replace o_cb8 := obj_below o_cb8 hN18.below
  replace r_q1 := r_q1.below hN18.below
  replace r_q9 := r_q9.below hN18.below
  have o_x7 := hN18.here
  refine L_nil (thenQ_normal (W_seq (W_region (L_mv (L_run (.bool true) (by kernel_rfl) (by kernel_rfl) (L_mv (L_want (by kernel_rfl) (L_mv (L_want (by kernel_rfl) (L_len 35 27 (([((1, 40, 41, false) : Mir), ((2, 41, 40, true) : Mir)] : List Mir)).length q1 rfl Tryd.underlying35 (r_q1.rd).len (by kernel_rfl) (L_want (by kernel_rfl) (L_run (.bool true) (by kernel_rfl) (by kernel_rfl) (L_pickT (by kernel_rfl) (L_mv (L_want (by kernel_rfl) (L_mv (L_want (by kernel_rfl) ?_)))))))))))))))))
  have hx20 : ([((1, 40, 41, false) : Mir), ((2, 41, 40, true) : Mir)] : List Mir)[1]? = some (((2, 41, 40, true) : Mir)) := rfl
  have hz := (r_q1.rd).at (k := 4) (fun _ => rfl) hx20
  obtain ⟨g21, off22, hl23, hc24⟩ := hz
  refine L_ixaddr (k := .i64) q1 1 _ g21 off22 el35 hl23 (by first | omega | (simp; done) | (simp [brackM]; done) | decide) (by kernel_rfl) (by kernel_rfl) (L_want (by kernel_rfl) (L_run (.pointer (some ⟨g21, ((off22 + 1 * 4) + 1), none⟩)) (by kernel_rfl) (by kernel_rfl) (L_want (by kernel_rfl) (L_load g21 ((off22 + 1 * 4) + 1) (.int .i32 41) (by kernel_rfl) (by kernel_rfl) (hc24 1 _ rfl) (L_want (by kernel_rfl) (L_run (.bool true) (by kernel_rfl) (by kernel_rfl) (L_pickT (by kernel_rfl) (L_mv (L_want (by kernel_rfl) (L_mv (L_want (by kernel_rfl) ?_)))))))))))
  have hz := (r_q1.rd).at (k := 4) (fun _ => rfl) hx20
  obtain ⟨g27, off28, hl29, hc30⟩ := hz
  refine L_ixaddr (k := .i64) q1 1 _ g27 off28 el35 hl29 (by first | omega | (simp; done) | (simp [brackM]; done) | decide) (by kernel_rfl) (by kernel_rfl) (L_want (by kernel_rfl) (L_run (.pointer (some ⟨g27, ((off28 + 1 * 4) + 3), none⟩)) (by kernel_rfl) (by kernel_rfl) (L_want (by kernel_rfl) (L_load g27 ((off28 + 1 * 4) + 3) (.bool true) (by kernel_rfl) (by kernel_rfl) (hc30 3 _ rfl) (L_pickT (by kernel_rfl) (L_mv (L_want (by kernel_rfl) (L_mv (L_want (by kernel_rfl) (L_run (.iface 65 (.pointer (some ⟨b16, 0, none⟩))) (by kernel_rfl) (by kernel_rfl) (L_want (by kernel_rfl) (L_call 32 [(.iface 63 (.pointer (some ⟨cb8, 0, none⟩))), (.iface 65 (.pointer (some ⟨b16, 0, none⟩)))] (by kernel_rfl) (by kernel_rfl) (as_fk cb8 b16 (.pointer none) _ (gcell_below hty hb) o_x7) ?_))))))))))))
  rintro _ w31 ⟨rfl, w32, hB33, hW34⟩
  replace hb := hb.trans (hB33.mono hs)
  replace hs := Nat.le_trans hs (hB33.size)
  replace o_cb8 := obj_below o_cb8 hB33
  replace o_x7 := obj_below o_x7 hB33
  replace r_q1 := r_q1.below hB33
  replace r_q9 := r_q9.below hB33
  replace hb := hb.trans (hW34.below g_x7)
  replace hs := Nat.le_trans hs (Nat.le_of_eq hW34.size.symm)
  have n_o_cb8 := obj_wrote o_cb8 hW34 (obj_ne o_cb8 o_x7 (by simp))
  have n_r_q1 := r_q1.wrote hW34 (r_q1.ne o_x7 (by simp))
  have n_r_q9 := r_q9.wrote hW34 (r_q9.ne o_x7 (by simp))
  replace o_cb8 := n_o_cb8; clear n_o_cb8
  replace r_q1 := n_r_q1; clear n_r_q1
  replace r_q9 := n_r_q9; clear n_r_q9
  replace o_x7 := hW34.here
  refine L_pickT (by kernel_rfl) (L_mv (L_want (by kernel_rfl) (L_load b16 0 (.pointer (some ⟨cb8, 0, none⟩)) (by kernel_rfl) (by kernel_rfl) (cell_obj o_x7 rfl) (L_want (by kernel_rfl) (L_run (.bool true) (by kernel_rfl) (by kernel_rfl) (L_pickT (by kernel_rfl) (L_mv (L_want (by kernel_rfl) (L_load b16 0 (.pointer (some ⟨cb8, 0, none⟩)) (by kernel_rfl) (by kernel_rfl) (cell_obj o_x7 rfl) (L_want (by kernel_rfl) (L_run (.pointer (some ⟨cb8, 0, none⟩)) (by kernel_rfl) (by kernel_rfl) (L_want (by kernel_rfl) (L_run (.pointer (some ⟨cb8, 2, none⟩)) (by kernel_rfl) (by kernel_rfl) (L_want (by kernel_rfl) (L_load cb8 2 (.int .i64 90) (by kernel_rfl) (by kernel_rfl) (cell_obj o_cb8 rfl) (L_want (by kernel_rfl) (L_run (.bool true) (by kernel_rfl) (by kernel_rfl) (L_pickT (by kernel_rfl) (L_mv (L_want (by kernel_rfl) (L_mv (L_want (by kernel_rfl) (L_seqT ([97, 41, 255] : List UInt8) ([97, 41, 255] : List UInt8) (by rfl) (by kernel_rfl) (by kernel_rfl) (L_pickT (by kernel_rfl) (L_mv (L_want (by kernel_rfl) (L_mv (L_want (by kernel_rfl) (L_run (.bool true) (by kernel_rfl) (by kernel_rfl) (L_pickT (by kernel_rfl) (L_as (L_nil (thenQ_normal (W_ret ?_))))))))))))))))))))))))))))))))))
  refine end_ret [.tmp 0] [(.bool true)] rfl rfl ⟨by kernel_rfl, trivial⟩ ?_
  have e0 : true = true := by rfl
  exact ⟨congrArg Value.bool e0, hb⟩

set_option maxHeartbeats 4000000 in
set_option maxRecDepth 100000 in
theorem c_furrowlaw09_MirrorsNames (w : World) (hty : w.cell? ⟨0, 0, none⟩ = some (.iface 115 (.agg #[.pointer (some ⟨4, 55, none⟩)]))) :
    Calls Tryd.prog 5 #[] w (Ret fun v w' => v = (.bool true) ∧ Below w.heap.size w w') := by
  refine enter (args := []) Tryd.func5 rfl (by kernel_rfl : _ = 4) (by kernel_rfl) ?_
  have hb := Below.refl w.heap.size w
  have hs : w.heap.size ≤ w.heap.size := Nat.le_refl _
  refine W_seq (W_region (L_as (L_nil (thenQ_normal (W_seq (W_region (L_mv (L_want (by kernel_rfl) (L_call 14 [] (by kernel_rfl) (by kernel_rfl) (c_furrowlaw09_awake  _ (gcell_below hty hb)) ?_)))))))))
  rintro _ w1 ⟨rfl, hB2⟩
  replace hb := hb.trans (hB2.mono hs)
  replace hs := Nat.le_trans hs (hB2.size)
  refine L_pickT (by kernel_rfl) (L_as (L_nil (thenQ_normal (W_ret ?_))))
  refine end_ret [.tmp 0] [(.bool true)] rfl rfl ⟨by kernel_rfl, trivial⟩ ?_
  have e0 : true = true := by rfl
  exact ⟨congrArg Value.bool e0, hb⟩

set_option maxHeartbeats 4000000 in
set_option maxRecDepth 100000 in
theorem c_furrowlaw09_fit (v_l : Value) (l : List (Mir)) (w : World) (p_l : Rd w encMir v_l l) (hl : l.length ≤ 1073741824) :
    Calls Tryd.prog 15 #[v_l] w (Ret fun v w' => v = (.bool (decide (l.length ≤ 2000))) ∧ Below w.heap.size w w') := by
  refine enter (args := [v_l]) Tryd.func15 rfl (by kernel_rfl : _ = 6) (by kernel_rfl) ?_
  have hb := Below.refl w.heap.size w
  have hs : w.heap.size ≤ w.heap.size := Nat.le_refl _
  have in_p_l := p_l
  refine W_seq (W_region (L_as (L_nil (thenQ_normal (W_seq (W_region (L_mv (L_len 35 27 (l).length v_l rfl Tryd.underlying35 (p_l).len (by kernel_rfl) (L_cmp .i64 (((l).length : Nat) : Int) ((2000 : Nat) : Int) ((l).length ≤ 2000) rfl (cmpN_le ((l).length) 2000) (by kernel_rfl) (by kernel_rfl) ?_ ?_)))))))))
  · intro h1
    replace h1 : (l).length ≤ 2000 := by omega
    refine L_as (L_nil (thenQ_normal (W_ret ?_)))
    refine end_ret [.tmp 2] [(.bool true)] rfl rfl ⟨by kernel_rfl, trivial⟩ ?_
    have e0 : true = decide (l.length ≤ 2000) := by first | exact (decide_eq_true (by omega)).symm | exact (decide_eq_false (by omega)).symm
    exact ⟨congrArg Value.bool e0, hb⟩
  · intro h2
    replace h2 : 2000 < (l).length := by omega
    refine L_as (L_nil (thenQ_normal (W_ret ?_)))
    refine end_ret [.tmp 2] [(.bool false)] rfl rfl ⟨by kernel_rfl, trivial⟩ ?_
    have e0 : false = decide (l.length ≤ 2000) := by first | exact (decide_eq_true (by omega)).symm | exact (decide_eq_false (by omega)).symm
    exact ⟨congrArg Value.bool e0, hb⟩

set_option maxHeartbeats 4000000 in
set_option maxRecDepth 100000 in
theorem c_furrowlaw09_lent (v_l : Value) (l : List (Mir)) (w : World) (p_l : Rd w encMir v_l l) (hl : l.length ≤ 1073741824) :
    Calls Tryd.prog 16 #[v_l] w (Ret fun v w' => ∃ (q0 : Value) (q1 : Value), v = q0 ∧ Row w' w.heap.size 27 4 encMir q0 l ∧ Row w' w.heap.size 27 4 encMir q1 (l ++ [((-77, 0, 0, false) : Mir)]) ∧ SameCap q1 q0 ∧ Below w.heap.size w w') := by
  refine enter (args := [v_l]) Tryd.func16 rfl (by kernel_rfl : _ = 15) (by kernel_rfl) ?_
  have hb := Below.refl w.heap.size w
  have hs : w.heap.size ≤ w.heap.size := Nat.le_refl _
  have in_p_l := p_l
  refine W_seq (W_region (L_as (L_nil (thenQ_normal (W_seq (W_region (L_as (L_nil (thenQ_normal (W_seq (W_region (L_mv (L_mv (L_appAll el35 w.heap.size (.slice none 0 0) v_l ([] : List (Mir)) l hs (Row.nil _ w.heap.size 27 4 encMir) p_l (by first | omega | (simp; omega) | (simp only [List.length_append, List.length_nil]; omega)) (fun _ => rfl) (fun _ => rfl) (by kernel_rfl) (by kernel_rfl) (by kernel_rfl) ?_))))))))))))))
  intro v1 w2 hr3 hg4 how5 
  replace hb := hb.grown hg4 hs (fun k hk => by simp [Value.ownBlock] at hk)
  replace hs := Nat.le_trans hs (hg4.size)
  have p_l := in_p_l.below hb
  have r_6 := hr3
  refine L_as (L_nil (thenQ_normal (W_seq (W_region (L_mv (L_run (Value.agg #[(.int .i64 (-77)), (.int .i32 0), (.int .i32 0), (.bool false)]) (by kernel_rfl) (by kernel_rfl) (L_app el35 w.heap.size v1 (([] : List (Mir)) ++ l) (-77, 0, 0, false) hs r_6 (by first | omega | (simp; omega) | (simp only [List.length_append, List.length_nil]; omega)) (by kernel_rfl) rfl rfl (by kernel_rfl) rfl (by kernel_rfl) (by kernel_rfl) ?_)))))))
  intro v6 w7 hr8 hg9 how10
  replace hb := hb.grown hg9 hs (fun k hk => (World.ownsRow.lt r_6 k hk).1)
  replace hs := Nat.le_trans hs (hg9.size)
  have n_p_l := in_p_l.below hb
  replace p_l := n_p_l; clear n_p_l
  replace r_6 := hr8
  refine L_as (L_nil (thenQ_normal (W_seq (W_region (L_mv (L_mv (L_len 35 27 (l).length v_l rfl Tryd.underlying35 (p_l).len (by kernel_rfl) (L_sltoR el35 v6 ((([] : List (Mir)) ++ l) ++ [(-77, 0, 0, false)]) ((l).length) r_6 (fun _ => rfl) (by first | omega | (simp; done) | (simp; omega)) (by kernel_rfl) ⟨.i64, by kernel_rfl⟩ ?_))))))))
  intro vp11 r_vp12 hsc13
  refine L_as (L_nil (thenQ_normal (W_ret ?_)))
  refine end_ret [.tmp 2] [vp11] rfl rfl ⟨by kernel_rfl, trivial⟩ ?_
  have e50 : (List.take ((l).length) ((([] : List (Mir)) ++ l) ++ [(-77, 0, 0, false)])) = l := by simp
  have e51 : ((([] : List (Mir)) ++ l) ++ [(-77, 0, 0, false)]) = (l ++ [((-77, 0, 0, false) : Mir)]) := by simp
  exact ⟨vp11, v6, rfl, r_vp12.cast e50, r_6.cast e51, hsc13, hb⟩

set_option maxHeartbeats 4000000 in
set_option maxRecDepth 100000 in
theorem c_furrowlaw09_kept {B_q : Nat} (v_q u_q : Value) (v_l : Value) (l : List (Mir)) (w : World) (p_q : Row w B_q 27 4 encMir v_q l) (h_q : Row w B_q 27 4 encMir u_q (l ++ [((-77, 0, 0, false) : Mir)])) (c_q : SameCap u_q v_q) (p_l : Rd w encMir v_l l) (hl : l.length ≤ 1073741824) :
    Calls Tryd.prog 19 #[v_q, v_l] w (Ret fun v w' => v = (.bool true) ∧ Below w.heap.size w w') := by
  refine enter (args := [v_q, v_l]) Tryd.func19 rfl (by kernel_rfl : _ = 21) (by kernel_rfl) ?_
  have hb := Below.refl w.heap.size w
  have hs : w.heap.size ≤ w.heap.size := Nat.le_refl _
  have in_p_l := p_l
  refine W_seq (W_region (L_as (L_nil (thenQ_normal (W_seq (W_region (L_mv (L_mv (L_call 40 [v_q, v_l] (by kernel_rfl) (by kernel_rfl) (c_furrowlaw09_sameMirrors v_q l v_l l _ p_q.rd p_l (by first | omega | (simp; done) | (simp only [List.length_append, List.length_cons, List.length_nil]; omega)) (by first | omega | (simp; done) | (simp only [List.length_append, List.length_cons, List.length_nil]; omega))) ?_)))))))))
  rintro _ w1 ⟨rfl, hB2⟩
  replace hb := hb.trans (hB2.mono hs)
  replace hs := Nat.le_trans hs (hB2.size)
  replace p_l := p_l.below hB2
  replace p_q := p_q.below hB2
  replace h_q := h_q.below hB2
  refine put_split (eqMs l l) ?_ ?_
  · intro h4
    refine L_mv (L_want (by kernel_rfl) (L_mv (L_want (by kernel_rfl) (L_mv (L_want (by kernel_rfl) (L_len 35 27 (l).length v_l rfl Tryd.underlying35 (p_l).len (by kernel_rfl) (L_want (by kernel_rfl) (L_addN ((l).length) 1 (by omega) (by kernel_rfl) (by kernel_rfl) (L_want (by kernel_rfl) (L_slext el35 v_q u_q l (l ++ [((-77, 0, 0, false) : Mir)]) p_q h_q c_q (by kernel_rfl) ⟨.i64, (by kernel_rfl : _ = Value.int .i64 ((((l).length + 1) : Nat) : Int)).trans (by first | rfl | simp)⟩ (L_want (by kernel_rfl) (L_mv (L_want (by kernel_rfl) (L_len 35 27 (l).length v_l rfl Tryd.underlying35 (p_l).len (by kernel_rfl) (L_want (by kernel_rfl) ?_)))))))))))))))
    have hz := get_some (l ++ [((-77, 0, 0, false) : Mir)]) ((l).length) (by first | omega | (simp; done) | (simp only [List.length_append, List.length_cons, List.length_nil]; omega)); obtain ⟨x5, hx6⟩ := hz
    have hz := (h_q.rd).at (k := 4) (fun _ => rfl) hx6
    obtain ⟨g7, off8, hl9, hc10⟩ := hz
    have hm_x5 := snoc_mir hx6
    refine L_ixaddr (k := .i64) u_q ((l).length) _ g7 off8 el35 hl9 (by first | omega | (simp; done) | (simp only [List.length_append, List.length_cons, List.length_nil]; omega)) (by kernel_rfl) (by kernel_rfl) (L_want (by kernel_rfl) (L_run (.pointer (some ⟨g7, (off8 + ((l).length) * 4), none⟩)) (by kernel_rfl) (by kernel_rfl) (L_want (by kernel_rfl) (L_load g7 (off8 + ((l).length) * 4) (.int .i64 x5.1) (by kernel_rfl) (by kernel_rfl) (hc10 0 _ rfl) (L_want (by kernel_rfl) (L_cmp .i64 x5.1 (-77) (x5.1 = -77) rfl (cmp_eq x5.1 (-77)) (by kernel_rfl) (by kernel_rfl) ?_ ?_))))))
    · intro h11
      replace h11 : x5.1 = -77 := by omega
      refine L_pickT (by kernel_rfl) (L_as (L_nil (thenQ_normal (W_ret ?_))))
      refine end_ret [.tmp 4] [(.bool true)] rfl rfl ⟨by kernel_rfl, trivial⟩ ?_
      have e0 : true = true := by first | rfl | (exfalso; omega) | (simp_all; done)
      exact ⟨congrArg Value.bool e0, hb⟩
    · intro h12
      replace h12 : x5.1 ≠ -77 := by omega
      refine L_pickT (by kernel_rfl) (L_as (L_nil (thenQ_normal (W_ret ?_))))
      refine end_ret [.tmp 4] [(.bool false)] rfl rfl ⟨by kernel_rfl, trivial⟩ ?_
      have e0 : false = true := by first | rfl | (exfalso; omega) | (simp_all; done)
      exact ⟨congrArg Value.bool e0, hb⟩
  · intro h13
    exfalso; simp [eqMs] at h13

set_option maxHeartbeats 4000000 in
set_option maxRecDepth 100000 in
theorem c_furrowlaw09_MirrorsOf (v_l : Value) (l : List (Mir)) (r : Int) (w : World) (p_l : Rd w encMir v_l l) (hty : w.cell? ⟨0, 0, none⟩ = some (.iface 115 (.agg #[.pointer (some ⟨4, 55, none⟩)]))) (hl : l.length ≤ 1048576) :
    Calls Tryd.prog 6 #[v_l, (.int .i32 r)] w (Ret fun v w' => v = (.bool true) ∧ Below w.heap.size w w') := by
  refine enter (args := [v_l, (.int .i32 r)]) Tryd.func6 rfl (by kernel_rfl : _ = 40) (by kernel_rfl) ?_
  have hb := Below.refl w.heap.size w
  have hs : w.heap.size ≤ w.heap.size := Nat.le_refl _
  have in_p_l := p_l
  refine W_seq (W_region (L_as (L_nil (thenQ_normal (W_seq (W_region (L_mv (L_call 16 [v_l] (by kernel_rfl) (by kernel_rfl) (c_furrowlaw09_lent v_l l _ p_l (by omega)) ?_))))))))
  rintro q1 w3 ⟨_, q2, rfl, r_q1, r_q2, hx6, hB4⟩
  replace r_q1 := r_q1.base hs
  replace r_q2 := r_q2.base hs
  replace hb := hb.trans (hB4.mono hs)
  replace hs := Nat.le_trans hs (hB4.size)
  replace p_l := p_l.below hB4
  refine L_as (L_nil (thenQ_normal (W_seq (W_region (L_mv (L_mv (L_call 20 [q1, (.int .i32 r)] (by kernel_rfl) (by kernel_rfl) (c_mirrors_Of q1 l r _ r_q1.rd (by omega)) ?_)))))))
  rintro _ w7 ⟨rfl, hB8⟩
  replace hb := hb.trans (hB8.mono hs)
  replace hs := Nat.le_trans hs (hB8.size)
  replace p_l := p_l.below hB8
  replace r_q1 := r_q1.below hB8
  replace r_q2 := r_q2.below hB8
  refine L_mv (L_run (.int .i32 ((ofF l r).1)) (by kernel_rfl) (by kernel_rfl) (L_run (.bool ((ofF l r).2)) (by kernel_rfl) (by kernel_rfl) (L_as (L_as (L_nil (thenQ_normal (W_seq (W_region (L_mv (L_mv (L_call 21 [v_l, (.int .i32 r)] (by kernel_rfl) (by kernel_rfl) (c_furrowref09_Of v_l l r _ p_l (by omega)) ?_)))))))))))
  rintro _ w10 ⟨rfl, hB11⟩
  replace hb := hb.trans (hB11.mono hs)
  replace hs := Nat.le_trans hs (hB11.size)
  replace p_l := p_l.below hB11
  replace r_q1 := r_q1.below hB11
  replace r_q2 := r_q2.below hB11
  refine L_mv (L_run (.int .i32 ((ofF l r).1)) (by kernel_rfl) (by kernel_rfl) (L_run (.bool ((ofF l r).2)) (by kernel_rfl) (by kernel_rfl) (L_as (L_as (L_nil (thenQ_normal (W_seq (W_region (L_mv (L_mv (L_cmp .i32 ((ofF l r).1) ((ofF l r).1) ((ofF l r).1 = (ofF l r).1) rfl (cmp_eq ((ofF l r).1) ((ofF l r).1)) (by kernel_rfl) (by kernel_rfl) ?_ ?_)))))))))))
  · intro h13
    replace h13 : (ofF l r).1 = (ofF l r).1 := by omega
    refine L_mv (L_want (by kernel_rfl) (L_mv (L_want (by kernel_rfl) (L_mv (L_want (by kernel_rfl) (L_beqS ((ofF l r).2) (by kernel_rfl) (by kernel_rfl) (fun c => by cases c <;> kernel_rfl) (L_pickT (by kernel_rfl) (L_mv (L_want (by kernel_rfl) (L_mv (L_want (by kernel_rfl) (L_mv (L_want (by kernel_rfl) (L_call 19 [q1, v_l] (by kernel_rfl) (by kernel_rfl) (c_furrowlaw09_kept q1 q2 v_l l _ r_q1 r_q2 hx6 p_l (by omega)) ?_))))))))))))))
    rintro _ w14 ⟨rfl, hB15⟩
    replace hb := hb.trans (hB15.mono hs)
    replace hs := Nat.le_trans hs (hB15.size)
    replace p_l := p_l.below hB15
    replace r_q1 := r_q1.below hB15
    replace r_q2 := r_q2.below hB15
    refine L_pickT (by kernel_rfl) (L_mv (L_want (by kernel_rfl) (L_call 14 [] (by kernel_rfl) (by kernel_rfl) (c_furrowlaw09_awake  _ (gcell_below hty hb)) ?_)))
    rintro _ w17 ⟨rfl, hB18⟩
    replace hb := hb.trans (hB18.mono hs)
    replace hs := Nat.le_trans hs (hB18.size)
    replace p_l := p_l.below hB18
    replace r_q1 := r_q1.below hB18
    replace r_q2 := r_q2.below hB18
    refine L_pickT (by kernel_rfl) (L_as (L_nil (thenQ_normal (W_ret ?_))))
    refine end_ret [.tmp 4] [(.bool true)] rfl rfl ⟨by kernel_rfl, trivial⟩ ?_
    have e0 : true = true := by first | rfl | (exfalso; omega) | (simp_all; done)
    exact ⟨congrArg Value.bool e0, hb⟩
  · intro h20
    replace h20 : (ofF l r).1 ≠ (ofF l r).1 := by omega
    exact (h20 rfl).elim

set_option maxHeartbeats 4000000 in
set_option maxRecDepth 100000 in
theorem c_furrowlaw09_MirrorsChecks (v_l : Value) (l : List (Mir)) (w : World) (p_l : Rd w encMir v_l l) (hty : w.cell? ⟨0, 0, none⟩ = some (.iface 115 (.agg #[.pointer (some ⟨4, 55, none⟩)]))) (hl : l.length ≤ 1048576) :
    Calls Tryd.prog 9 #[v_l] w (Ret fun v w' => v = (.bool true) ∧ Below w.heap.size w w') := by
  refine enter (args := [v_l]) Tryd.func9 rfl (by kernel_rfl : _ = 64) (by kernel_rfl) ?_
  have hb := Below.refl w.heap.size w
  have hs : w.heap.size ≤ w.heap.size := Nat.le_refl _
  have in_p_l := p_l
  refine W_seq (W_region (L_as (L_nil (thenQ_normal (W_seq (W_seq (W_region (L_mv (L_call 15 [v_l] (by kernel_rfl) (by kernel_rfl) (c_furrowlaw09_fit v_l l _ p_l (by omega)) ?_)))))))))
  rintro _ w1 ⟨rfl, hB2⟩
  replace hb := hb.trans (hB2.mono hs)
  replace hs := Nat.le_trans hs (hB2.size)
  replace p_l := p_l.below hB2
  refine put_split (decide (l.length ≤ 2000)) ?_ ?_
  · intro h4
    refine L_not true (by kernel_rfl) (L_nil (thenQ_normal (W_false (by kernel_rfl) (W_skip (thenQ_normal (W_seq (W_region (L_mv (L_call 16 [v_l] (by kernel_rfl) (by kernel_rfl) (c_furrowlaw09_lent v_l l _ p_l (by omega)) ?_)))))))))
    rintro q5 w7 ⟨_, q6, rfl, r_q5, r_q6, hx10, hB8⟩
    replace r_q5 := r_q5.base hs
    replace r_q6 := r_q6.base hs
    replace hb := hb.trans (hB8.mono hs)
    replace hs := Nat.le_trans hs (hB8.size)
    replace p_l := p_l.below hB8
    refine L_as (L_nil (thenQ_normal (W_seq (W_region (L_mv (L_call 22 [q5] (by kernel_rfl) (by kernel_rfl) (c_mirrors_Check q5 l _ r_q5.rd (by omega)) ?_))))))
    rintro _ w11 ⟨rfl, hB12⟩
    replace hb := hb.trans (hB12.mono hs)
    replace hs := Nat.le_trans hs (hB12.size)
    replace p_l := p_l.below hB12
    replace r_q5 := r_q5.below hB12
    replace r_q6 := r_q6.below hB12
    have := mcheck_err l
    have := mcheck_le l
    refine L_mv (L_run (.int .i64 (((mcheckF l).1 : Nat) : Int)) (by kernel_rfl) (by kernel_rfl) (L_run (.int .i64 ((mcheckF l).2)) (by kernel_rfl) (by kernel_rfl) (L_as (L_as (L_nil (thenQ_normal (W_seq (W_region (L_mv (L_call 23 [v_l] (by kernel_rfl) (by kernel_rfl) (c_furrowref09_Check v_l l _ p_l (by omega)) ?_))))))))))
    rintro _ w14 ⟨rfl, hB15⟩
    replace hb := hb.trans (hB15.mono hs)
    replace hs := Nat.le_trans hs (hB15.size)
    replace p_l := p_l.below hB15
    replace r_q5 := r_q5.below hB15
    replace r_q6 := r_q6.below hB15
    have := mcheck_err l
    have := mcheck_le l
    refine L_mv (L_run (.int .i64 (((mcheckF l).1 : Nat) : Int)) (by kernel_rfl) (by kernel_rfl) (L_run (.int .i64 ((mcheckF l).2)) (by kernel_rfl) (by kernel_rfl) (L_as (L_as (L_nil (thenQ_normal (W_seq (W_region (L_mv (L_call 24 [q5] (by kernel_rfl) (by kernel_rfl) (c_mirrors_Print q5 l _ r_q5.rd (by omega)) ?_))))))))))
    rintro _ w17 ⟨rfl, hB18⟩
    replace hb := hb.trans (hB18.mono hs)
    replace hs := Nat.le_trans hs (hB18.size)
    replace p_l := p_l.below hB18
    replace r_q5 := r_q5.below hB18
    replace r_q6 := r_q6.below hB18
    have := mprint_len l
    refine L_mv (L_run (S ((mprintF l).1)) (by kernel_rfl) (by kernel_rfl) (L_run (.int .i64 ((mprintF l).2)) (by kernel_rfl) (by kernel_rfl) (L_as (L_as (L_nil (thenQ_normal (W_seq (W_region (L_mv (L_call 25 [v_l] (by kernel_rfl) (by kernel_rfl) (c_furrowref09_Print v_l l _ p_l (by omega)) ?_))))))))))
    rintro _ w20 ⟨rfl, hB21⟩
    replace hb := hb.trans (hB21.mono hs)
    replace hs := Nat.le_trans hs (hB21.size)
    replace p_l := p_l.below hB21
    replace r_q5 := r_q5.below hB21
    replace r_q6 := r_q6.below hB21
    have := mprint_len l
    refine L_mv (L_run (S ((mprintF l).1)) (by kernel_rfl) (by kernel_rfl) (L_run (.int .i64 ((mprintF l).2)) (by kernel_rfl) (by kernel_rfl) (L_as (L_as (L_nil (thenQ_normal (W_seq (W_region (L_mv (L_mv (L_cmp .i64 (((mcheckF l).1 : Nat) : Int) (((mcheckF l).1 : Nat) : Int) ((mcheckF l).1 = (mcheckF l).1) rfl (cmpN_eq ((mcheckF l).1) ((mcheckF l).1)) (by kernel_rfl) (by kernel_rfl) ?_ ?_)))))))))))
    · intro h23
      replace h23 : (mcheckF l).1 = (mcheckF l).1 := by omega
      refine L_mv (L_want (by kernel_rfl) (L_mv (L_want (by kernel_rfl) (L_mv (L_want (by kernel_rfl) (L_cmp .i64 ((mcheckF l).2) ((mcheckF l).2) ((mcheckF l).2 = (mcheckF l).2) rfl (cmp_eq ((mcheckF l).2) ((mcheckF l).2)) (by kernel_rfl) (by kernel_rfl) ?_ ?_))))))
      · intro h24
        replace h24 : (mcheckF l).2 = (mcheckF l).2 := by omega
        refine L_pickT (by kernel_rfl) (L_mv (L_want (by kernel_rfl) (L_mv (L_want (by kernel_rfl) (L_mv (L_want (by kernel_rfl) (L_seq ((mprintF l).1) ((mprintF l).1) rfl (by kernel_rfl) (by kernel_rfl) ?_ ?_)))))))
        · intro h25
          refine L_pickT (by kernel_rfl) (L_mv (L_want (by kernel_rfl) (L_mv (L_want (by kernel_rfl) (L_mv (L_want (by kernel_rfl) (L_cmp .i64 ((mprintF l).2) ((mprintF l).2) ((mprintF l).2 = (mprintF l).2) rfl (cmp_eq ((mprintF l).2) ((mprintF l).2)) (by kernel_rfl) (by kernel_rfl) ?_ ?_)))))))
          · intro h26
            replace h26 : (mprintF l).2 = (mprintF l).2 := by omega
            refine L_pickT (by kernel_rfl) (L_mv (L_want (by kernel_rfl) (L_mv (L_want (by kernel_rfl) (L_mv (L_want (by kernel_rfl) (L_call 19 [q5, v_l] (by kernel_rfl) (by kernel_rfl) (c_furrowlaw09_kept q5 q6 v_l l _ r_q5 r_q6 hx10 p_l (by omega)) ?_)))))))
            rintro _ w27 ⟨rfl, hB28⟩
            replace hb := hb.trans (hB28.mono hs)
            replace hs := Nat.le_trans hs (hB28.size)
            replace p_l := p_l.below hB28
            replace r_q5 := r_q5.below hB28
            replace r_q6 := r_q6.below hB28
            refine L_pickT (by kernel_rfl) (L_mv (L_want (by kernel_rfl) (L_call 14 [] (by kernel_rfl) (by kernel_rfl) (c_furrowlaw09_awake  _ (gcell_below hty hb)) ?_)))
            rintro _ w30 ⟨rfl, hB31⟩
            replace hb := hb.trans (hB31.mono hs)
            replace hs := Nat.le_trans hs (hB31.size)
            replace p_l := p_l.below hB31
            replace r_q5 := r_q5.below hB31
            replace r_q6 := r_q6.below hB31
            refine L_pickT (by kernel_rfl) (L_as (L_nil (thenQ_normal (W_ret ?_))))
            refine end_ret [.tmp 2] [(.bool true)] rfl rfl ⟨by kernel_rfl, trivial⟩ ?_
            have e0 : true = true := by first | rfl | (exfalso; omega) | (simp_all; done)
            exact ⟨congrArg Value.bool e0, hb⟩
          · intro h33
            replace h33 : (mprintF l).2 ≠ (mprintF l).2 := by omega
            exact (h33 rfl).elim
        · intro h34
          exact (h34 rfl).elim
      · intro h35
        replace h35 : (mcheckF l).2 ≠ (mcheckF l).2 := by omega
        exact (h35 rfl).elim
    · intro h36
      replace h36 : (mcheckF l).1 ≠ (mcheckF l).1 := by omega
      exact (h36 rfl).elim
  · intro h37
    refine L_not false (by kernel_rfl) (L_nil (thenQ_normal (W_true (by kernel_rfl) (W_seq (W_region (L_call 14 [] (by kernel_rfl) (by kernel_rfl) (c_furrowlaw09_awake  _ (gcell_below hty hb)) ?_))))))
    rintro _ w38 ⟨rfl, hB39⟩
    replace hb := hb.trans (hB39.mono hs)
    replace hs := Nat.le_trans hs (hB39.size)
    replace p_l := p_l.below hB39
    refine L_as (L_nil (thenQ_normal (W_ret (thenQ_ret ?_))))
    refine end_ret [.tmp 2] [(.bool true)] rfl rfl ⟨by kernel_rfl, trivial⟩ ?_
    have e0 : true = true := by first | rfl | (exfalso; omega) | (simp_all; done)
    exact ⟨congrArg Value.bool e0, hb⟩

set_option maxHeartbeats 4000000 in
set_option maxRecDepth 100000 in
theorem c_furrowlaw09_MirrorsTexts (v_l : Value) (l : List (Mir)) (s : List UInt8) (w : World) (p_l : Rd w encMir v_l l) (hty : w.cell? ⟨0, 0, none⟩ = some (.iface 115 (.agg #[.pointer (some ⟨4, 55, none⟩)]))) (hl : l.length ≤ 1048576) (hs : s.length ≤ 1048576) (hr0 : ∀ m ∈ l, -2147483648 ≤ m.2.2.1 ∧ m.2.2.1 ≤ 2147483647) :
    Calls Tryd.prog 4 #[v_l, (S s)] w (Ret fun v w' => v = (.bool true) ∧ Below w.heap.size w w') := by
  refine enter (args := [v_l, (S s)]) Tryd.func4 rfl (by kernel_rfl : _ = 44) (by kernel_rfl) ?_
  have hb := Below.refl w.heap.size w
  have hs : w.heap.size ≤ w.heap.size := Nat.le_refl _
  have in_p_l := p_l
  refine W_seq (W_region (L_as (L_nil (thenQ_normal (W_seq (W_seq (W_region (L_mv (L_call 15 [v_l] (by kernel_rfl) (by kernel_rfl) (c_furrowlaw09_fit v_l l _ p_l (by first | omega | assumption)) ?_)))))))))
  rintro _ w1 ⟨rfl, hB2⟩
  replace hb := hb.trans (hB2.mono hs)
  replace hs := Nat.le_trans hs (hB2.size)
  replace p_l := p_l.below hB2
  refine put_split (decide (l.length ≤ 2000)) ?_ ?_
  · intro h4
    refine L_not true (by kernel_rfl) (L_nil (thenQ_normal (W_false (by kernel_rfl) (W_skip (thenQ_normal (W_seq (W_region (L_mv (L_call 16 [v_l] (by kernel_rfl) (by kernel_rfl) (c_furrowlaw09_lent v_l l _ p_l (by first | omega | assumption)) ?_)))))))))
    rintro q5 w7 ⟨_, q6, rfl, r_q5, r_q6, hx10, hB8⟩
    replace r_q5 := r_q5.base hs
    replace r_q6 := r_q6.base hs
    replace hb := hb.trans (hB8.mono hs)
    replace hs := Nat.le_trans hs (hB8.size)
    replace p_l := p_l.below hB8
    refine L_as (L_nil (thenQ_normal (W_seq (W_region (L_mv (L_mv (L_call 17 [q5, (S s)] (by kernel_rfl) (by kernel_rfl) (c_mirrors_Text q5 l s _ r_q5.rd (by first | omega | assumption) (by first | omega | assumption)) ?_)))))))
    rintro _ w11 ⟨rfl, hB12⟩
    replace hb := hb.trans (hB12.mono hs)
    replace hs := Nat.le_trans hs (hB12.size)
    replace p_l := p_l.below hB12
    replace r_q5 := r_q5.below hB12
    replace r_q6 := r_q6.below hB12
    refine L_mv (L_run (S ((mtextF l s).1)) (by kernel_rfl) (by kernel_rfl) (L_run (.int .i64 (((mtextF l s).2 : Nat) : Int)) (by kernel_rfl) (by kernel_rfl) (L_as (L_as (L_nil (thenQ_normal (W_seq (W_region (L_mv (L_mv (L_call 18 [v_l, (S s)] (by kernel_rfl) (by kernel_rfl) (c_furrowref09_Text v_l l s _ p_l (by first | omega | assumption) (by first | omega | assumption) (by first | omega | assumption)) ?_)))))))))))
    rintro _ w14 ⟨rfl, hB15⟩
    replace hb := hb.trans (hB15.mono hs)
    replace hs := Nat.le_trans hs (hB15.size)
    replace p_l := p_l.below hB15
    replace r_q5 := r_q5.below hB15
    replace r_q6 := r_q6.below hB15
    refine L_mv (L_run (S ((mtextF l s).1)) (by kernel_rfl) (by kernel_rfl) (L_run (.int .i64 (((mtextF l s).2 : Nat) : Int)) (by kernel_rfl) (by kernel_rfl) (L_as (L_as (L_nil (thenQ_normal (W_seq (W_region (L_mv (L_mv (L_seq ((mtextF l s).1) ((mtextF l s).1) rfl (by kernel_rfl) (by kernel_rfl) ?_ ?_)))))))))))
    · intro h17
      refine L_mv (L_want (by kernel_rfl) (L_mv (L_want (by kernel_rfl) (L_mv (L_want (by kernel_rfl) (L_cmp .i64 (((mtextF l s).2 : Nat) : Int) (((mtextF l s).2 : Nat) : Int) ((mtextF l s).2 = (mtextF l s).2) rfl (cmpN_eq ((mtextF l s).2) ((mtextF l s).2)) (by kernel_rfl) (by kernel_rfl) ?_ ?_))))))
      · intro h18
        replace h18 : (mtextF l s).2 = (mtextF l s).2 := by omega
        refine L_pickT (by kernel_rfl) (L_mv (L_want (by kernel_rfl) (L_mv (L_want (by kernel_rfl) (L_mv (L_want (by kernel_rfl) (L_call 19 [q5, v_l] (by kernel_rfl) (by kernel_rfl) (c_furrowlaw09_kept q5 q6 v_l l _ r_q5 r_q6 hx10 p_l (by first | omega | assumption)) ?_)))))))
        rintro _ w19 ⟨rfl, hB20⟩
        replace hb := hb.trans (hB20.mono hs)
        replace hs := Nat.le_trans hs (hB20.size)
        replace p_l := p_l.below hB20
        replace r_q5 := r_q5.below hB20
        replace r_q6 := r_q6.below hB20
        refine L_pickT (by kernel_rfl) (L_mv (L_want (by kernel_rfl) (L_call 14 [] (by kernel_rfl) (by kernel_rfl) (c_furrowlaw09_awake  _ (gcell_below hty hb)) ?_)))
        rintro _ w22 ⟨rfl, hB23⟩
        replace hb := hb.trans (hB23.mono hs)
        replace hs := Nat.le_trans hs (hB23.size)
        replace p_l := p_l.below hB23
        replace r_q5 := r_q5.below hB23
        replace r_q6 := r_q6.below hB23
        refine L_pickT (by kernel_rfl) (L_as (L_nil (thenQ_normal (W_ret ?_))))
        refine end_ret [.tmp 4] [(.bool true)] rfl rfl ⟨by kernel_rfl, trivial⟩ ?_
        have e0 : true = true := by first | rfl | (exfalso; omega) | (simp_all; done)
        exact ⟨congrArg Value.bool e0, hb⟩
      · intro h25
        replace h25 : (mtextF l s).2 ≠ (mtextF l s).2 := by omega
        exact (h25 rfl).elim
    · intro h26
      exact (h26 rfl).elim
  · intro h27
    refine L_not false (by kernel_rfl) (L_nil (thenQ_normal (W_true (by kernel_rfl) (W_seq (W_region (L_call 14 [] (by kernel_rfl) (by kernel_rfl) (c_furrowlaw09_awake  _ (gcell_below hty hb)) ?_))))))
    rintro _ w28 ⟨rfl, hB29⟩
    replace hb := hb.trans (hB29.mono hs)
    replace hs := Nat.le_trans hs (hB29.size)
    replace p_l := p_l.below hB29
    refine L_as (L_nil (thenQ_normal (W_ret (thenQ_ret ?_))))
    refine end_ret [.tmp 4] [(.bool true)] rfl rfl ⟨by kernel_rfl, trivial⟩ ?_
    have e0 : true = true := by first | rfl | (exfalso; omega) | (simp_all; done)
    exact ⟨congrArg Value.bool e0, hb⟩

end Go.Proofs.YtjdcmeoiommglaaDoor
