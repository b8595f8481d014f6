/- Walks, written by my program walk.py out of the specification mlaw.py: each theorem says what one function returns and that it leaves memory as it was. -/
import Derived.Test.YtjdcmeoiommglaaGreatDoorPTxt
import Derived.Test.YtjdcmeoiommglaaGreatDoorWllines
import Derived.Test.YtjdcmeoiommglaaGreatDoorWlscan
import Derived.Test.YtjdcmeoiommglaaGreatDoorWlread
import Derived.Test.YtjdcmeoiommglaaGreatDoorWlref
import Derived.Test.YtjdcmeoiommglaaGreatDoorWmcor
import Derived.Test.YtjdcmeoiommglaaGreatDoorWmmir
import Derived.Test.YtjdcmeoiommglaaGreatDoorWmtpr
import Derived.Test.YtjdcmeoiommglaaGreatDoorFKab
import Derived.Test.YtjdcmeoiommglaaGreatDoorProg
import Derived.Tactics2
import Derived.Test.YtjdcmeoiommglaaGreatDoorAs
namespace Go.Proofs.YtjdcmeoiommglaaGreatDoor
open Go Go.RowKit Go.FK
set_option linter.unusedVariables false
set_option linter.unusedSimpArgs false



set_option maxHeartbeats 4000000 in
set_option maxRecDepth 100000 in
theorem c_furrowlaw09_brackets (w : World) :
    Calls Tryz.prog 10 #[] w (Ret fun v w' => ∃ (q0 : Value), v = q0 ∧ Row w' w.heap.size 38 4 encMir q0 brackM ∧ Below w.heap.size w w') := by
  refine enter (args := []) Tryz.func10 rfl (by kernel_rfl : _ = 6) (by kernel_rfl) ?_
  have hb := Below.refl w.heap.size w
  have hs : w.heap.size ≤ w.heap.size := Nat.le_refl _
  refine W_seq (W_region (L_as (L_nil (thenQ_normal (W_seq (W_region (L_run (Value.agg #[(.int .i64 0), (.int .i32 40), (.int .i32 41), (.bool false)]) (by kernel_rfl) (by kernel_rfl) (L_run (Value.agg #[(.int .i64 0), (.int .i32 41), (.int .i32 40), (.bool false)]) (by kernel_rfl) (by kernel_rfl) (L_run (Value.agg #[(.int .i64 0), (.int .i32 171), (.int .i32 187), (.bool false)]) (by kernel_rfl) (by kernel_rfl) (L_run (Value.agg #[(.int .i64 0), (.int .i32 187), (.int .i32 171), (.bool false)]) (by kernel_rfl) (by kernel_rfl) (L_new (fun b => .slice (some ⟨b, 0, none⟩) 4 4) (.cells [(.int .i64 0), (.int .i32 40), (.int .i32 41), (.bool false), (.int .i64 0), (.int .i32 41), (.int .i32 40), (.bool false), (.int .i64 0), (.int .i32 171), (.int .i32 187), (.bool false), (.int .i64 0), (.int .i32 187), (.int .i32 171), (.bool false)].toArray 38 (0, 0)) (by kernel_rfl) (by kernel_rfl) ?_)))))))))))
  intro b1 w2 hN3
  have g_b1 : w.heap.size ≤ b1 := by rw [hN3.num]; exact hs
  replace hb := hb.trans (hN3.below.mono hs)
  replace hs := Nat.le_trans hs (hN3.below.size)
  have r_b1 : Row w2 w.heap.size 38 4 encMir (.slice (some ⟨b1, 0, none⟩) 4 4) ([(0, 40, 41, false), (0, 41, 40, false), (0, 171, 187, false), (0, 187, 171, false)] : List (Mir)) := Row.made ([(0, 40, 41, false), (0, 41, 40, false), (0, 171, 187, false), (0, 187, 171, false)] : List (Mir)) hN3 g_b1 rfl rfl (by first | decide | (simp; done))
  refine L_as (L_nil (thenQ_normal (W_ret ?_)))
  refine end_ret [.tmp 0] [(.slice (some ⟨b1, 0, none⟩) 4 4)] rfl rfl ⟨by kernel_rfl, trivial⟩ ?_
  have e51 : ([(0, 40, 41, false), (0, 41, 40, false), (0, 171, 187, false), (0, 187, 171, false)] : List (Mir)) = brackM := by rfl
  exact ⟨(.slice (some ⟨b1, 0, none⟩) 4 4), rfl, r_b1.cast e51, hb⟩

set_option maxHeartbeats 4000000 in
set_option maxRecDepth 100000 in
theorem c_furrowlaw09_awake (w : World) (hty : w.cell? ⟨0, 0, none⟩ = some (.iface 100 (.agg #[.pointer (some ⟨4, 25, none⟩)]))) :
    Calls Tryz.prog 4 #[] w (Ret fun v w' => v = (.bool true) ∧ Below w.heap.size w w') := by
  refine enter (args := []) Tryz.func4 rfl (by kernel_rfl : _ = 65) (by kernel_rfl) ?_
  have hb := Below.refl w.heap.size w
  have hs : w.heap.size ≤ w.heap.size := Nat.le_refl _
  refine W_seq (W_region (L_as (L_nil (thenQ_normal (W_seq (W_region (L_call 5 [(S ([102] : List UInt8)), (S ([48, 48, 50, 56, 59, 32, 48, 48, 50, 57, 10, 48, 48, 50, 57, 59, 32, 48, 48, 50, 56, 32, 35, 32, 91, 66, 69, 83, 84, 32, 70, 73, 84, 93, 10] : List UInt8))] (by kernel_rfl) (by kernel_rfl) (calls_as (c_mirrors_Read_ok ([102] : List UInt8) ([48, 48, 50, 56, 59, 32, 48, 48, 50, 57, 10, 48, 48, 50, 57, 59, 32, 48, 48, 50, 56, 32, 35, 32, 91, 66, 69, 83, 84, 32, 70, 73, 84, 93, 10] : List UInt8) _ (by first | omega | (simp; done) | (simp [brackM]; done) | decide) (by kernel_rfl)) (by kernel_rfl : _ = fun v w' => ∃ (q0 : Value), v = (.tuple #[q0, .nilIface]) ∧ Row w' w.heap.size 38 4 encMir q0 ([((1, 40, 41, false) : Mir), ((2, 41, 40, true) : Mir)] : List Mir) ∧ Below w.heap.size w w')) ?_)))))))
  rintro _ w2 ⟨q1, rfl, r_q1, hB3⟩
  replace r_q1 := r_q1.base hs
  replace hb := hb.trans (hB3.mono hs)
  replace hs := Nat.le_trans hs (hB3.size)
  refine L_mv (L_run q1 (by kernel_rfl) (by kernel_rfl) (L_run .nilIface (by kernel_rfl) (by kernel_rfl) (L_as (L_as (L_nil (thenQ_normal (W_seq (W_region (L_call 5 [(S ([102] : List UInt8)), (S ([48, 48, 50, 56, 59, 32, 48, 48, 50, 57, 10] : List UInt8))] (by kernel_rfl) (by kernel_rfl) (calls_as (c_mirrors_Read_bad ([102] : List UInt8) ([48, 48, 50, 56, 59, 32, 48, 48, 50, 57, 10] : List UInt8) _ (by first | omega | (simp; done) | (simp [brackM]; done) | decide) (by (rw [show (mreadF ([48, 48, 50, 56, 59, 32, 48, 48, 50, 57, 10] : List UInt8)).2.2 = 90 from (by kernel_rfl)]; decide))) (by kernel_rfl : _ = fun v w' => ∃ (cb0 : Nat), v = (.tuple #[(.slice none 0 0), (.iface 30 (.pointer (some ⟨cb0, 0, none⟩)))]) ∧ w'.heap[cb0]? = some (.cells [(S ([102] : List UInt8)), (.int .i64 1), (.int .i64 90)].toArray 35 (0, 0)) ∧ w2.heap.size ≤ cb0 ∧ Below w2.heap.size w2 w')) ?_)))))))))
  rintro _ w5 ⟨cb8, rfl, o_cb8, g_cb8, hB6⟩
  replace g_cb8 := Nat.le_trans hs g_cb8
  replace hb := hb.trans (hB6.mono hs)
  replace hs := Nat.le_trans hs (hB6.size)
  replace r_q1 := r_q1.below hB6
  refine L_mv (L_run (.slice none 0 0) (by kernel_rfl) (by kernel_rfl) (L_run (.iface 30 (.pointer (some ⟨cb8, 0, none⟩))) (by kernel_rfl) (by kernel_rfl) (L_as (L_as (L_nil (thenQ_normal (W_seq (W_region (L_call 10 [] (by kernel_rfl) (by kernel_rfl) (c_furrowlaw09_brackets  _ ) ?_)))))))))
  rintro q9 w10 ⟨_, rfl, r_q9, hB11⟩
  have ap_r_q9_r_q1 := ap_call r_q9 r_q1; have ap_r_q1_r_q9 := ap_comm ap_r_q9_r_q1
  replace r_q9 := r_q9.base hs
  replace hb := hb.trans (hB11.mono hs)
  replace hs := Nat.le_trans hs (hB11.size)
  replace o_cb8 := obj_below o_cb8 hB11
  replace r_q1 := r_q1.below hB11
  refine L_call 9 [q9, (S ([97, 40, 255] : List UInt8))] (by kernel_rfl) (by kernel_rfl) (calls_as (c_mirrors_Text q9 brackM ([97, 40, 255] : List UInt8) _ r_q9.rd (by first | omega | (simp; done) | (simp [brackM]; done) | decide) (by first | omega | (simp; done) | (simp [brackM]; done) | decide)) (by kernel_rfl : _ = fun v w' => v = (.tuple #[(S ([97, 41, 255] : List UInt8)), (.int .i64 1)]) ∧ Below w10.heap.size w10 w')) ?_
  rintro _ w13 ⟨rfl, hB14⟩
  replace hb := hb.trans (hB14.mono hs)
  replace hs := Nat.le_trans hs (hB14.size)
  replace o_cb8 := obj_below o_cb8 hB14
  replace r_q1 := r_q1.below hB14
  replace r_q9 := r_q9.below hB14
  refine L_mv (L_run (S ([97, 41, 255] : List UInt8)) (by kernel_rfl) (by kernel_rfl) (L_run (.int .i64 1) (by kernel_rfl) (by kernel_rfl) (L_as (L_as (L_nil (thenQ_normal (W_seq (W_region (L_new (fun b => .pointer (some ⟨b, 0, none⟩)) (.cells [(.pointer none)].toArray 30 (0, 0)) (by kernel_rfl) (by kernel_rfl) ?_)))))))))
  intro b16 w17 hN18
  have ne_cb8_x7 : cb8 ≠ b16 := by have := (obj_lt o_cb8); have := hN18.num; omega
  have ne_x7_cb8 := ne_cb8_x7.symm
  have g_x7 : w.heap.size ≤ b16 := by rw [hN18.num]; exact hs
  replace hb := hb.trans (hN18.below.mono hs)
  replace hs := Nat.le_trans hs (hN18.below.size)
  replace o_cb8 := obj_below o_cb8 hN18.below
  replace r_q1 := r_q1.below hN18.below
  replace r_q9 := r_q9.below hN18.below
  have o_x7 := hN18.here
  refine L_nil (thenQ_normal (W_seq (W_region (L_mv (L_run (.bool true) (by kernel_rfl) (by kernel_rfl) (L_mv (L_want (by kernel_rfl) (L_mv (L_want (by kernel_rfl) (L_len 23 38 (([((1, 40, 41, false) : Mir), ((2, 41, 40, true) : Mir)] : List Mir)).length q1 rfl Tryz.underlying23 (r_q1.rd).len (by kernel_rfl) (L_want (by kernel_rfl) (L_run (.bool true) (by kernel_rfl) (by kernel_rfl) (L_pickT (by kernel_rfl) (L_mv (L_want (by kernel_rfl) (L_mv (L_want (by kernel_rfl) ?_)))))))))))))))))
  have hx20 : ([((1, 40, 41, false) : Mir), ((2, 41, 40, true) : Mir)] : List Mir)[1]? = some (((2, 41, 40, true) : Mir)) := rfl
  have hz := (r_q1.rd).at (k := 4) (fun _ => rfl) hx20
  obtain ⟨g21, off22, hl23, hc24⟩ := hz
  refine L_ixaddr (k := .i64) q1 1 _ g21 off22 el23 hl23 (by first | omega | (simp; done) | (simp [brackM]; done) | decide) (by kernel_rfl) (by kernel_rfl) (L_want (by kernel_rfl) (L_run (.pointer (some ⟨g21, ((off22 + 1 * 4) + 1), none⟩)) (by kernel_rfl) (by kernel_rfl) (L_want (by kernel_rfl) (L_load g21 ((off22 + 1 * 4) + 1) (.int .i32 41) (by kernel_rfl) (by kernel_rfl) (hc24 1 _ rfl) (L_want (by kernel_rfl) (L_run (.bool true) (by kernel_rfl) (by kernel_rfl) (L_pickT (by kernel_rfl) (L_mv (L_want (by kernel_rfl) (L_mv (L_want (by kernel_rfl) ?_)))))))))))
  have hz := (r_q1.rd).at (k := 4) (fun _ => rfl) hx20
  obtain ⟨g27, off28, hl29, hc30⟩ := hz
  refine L_ixaddr (k := .i64) q1 1 _ g27 off28 el23 hl29 (by first | omega | (simp; done) | (simp [brackM]; done) | decide) (by kernel_rfl) (by kernel_rfl) (L_want (by kernel_rfl) (L_run (.pointer (some ⟨g27, ((off28 + 1 * 4) + 3), none⟩)) (by kernel_rfl) (by kernel_rfl) (L_want (by kernel_rfl) (L_load g27 ((off28 + 1 * 4) + 3) (.bool true) (by kernel_rfl) (by kernel_rfl) (hc30 3 _ rfl) (L_pickT (by kernel_rfl) (L_mv (L_want (by kernel_rfl) (L_mv (L_want (by kernel_rfl) (L_run (.iface 32 (.pointer (some ⟨b16, 0, none⟩))) (by kernel_rfl) (by kernel_rfl) (L_want (by kernel_rfl) (L_call 7 [(.iface 30 (.pointer (some ⟨cb8, 0, none⟩))), (.iface 32 (.pointer (some ⟨b16, 0, none⟩)))] (by kernel_rfl) (by kernel_rfl) (as_fk cb8 b16 (.pointer none) _ (gcell_below hty hb) o_x7) ?_))))))))))))
  rintro _ w31 ⟨rfl, w32, hB33, hW34⟩
  replace hb := hb.trans (hB33.mono hs)
  replace hs := Nat.le_trans hs (hB33.size)
  replace o_cb8 := obj_below o_cb8 hB33
  replace o_x7 := obj_below o_x7 hB33
  replace r_q1 := r_q1.below hB33
  replace r_q9 := r_q9.below hB33
  replace hb := hb.trans (hW34.below g_x7)
  replace hs := Nat.le_trans hs (Nat.le_of_eq hW34.size.symm)
  have n_o_cb8 := obj_wrote o_cb8 hW34 (obj_ne o_cb8 o_x7 (by simp))
  have n_r_q1 := r_q1.wrote hW34 (r_q1.ne o_x7 (by simp))
  have n_r_q9 := r_q9.wrote hW34 (r_q9.ne o_x7 (by simp))
  replace o_cb8 := n_o_cb8; clear n_o_cb8
  replace r_q1 := n_r_q1; clear n_r_q1
  replace r_q9 := n_r_q9; clear n_r_q9
  replace o_x7 := hW34.here
  refine L_pickT (by kernel_rfl) (L_mv (L_want (by kernel_rfl) (L_load b16 0 (.pointer (some ⟨cb8, 0, none⟩)) (by kernel_rfl) (by kernel_rfl) (cell_obj o_x7 rfl) (L_want (by kernel_rfl) (L_run (.bool true) (by kernel_rfl) (by kernel_rfl) (L_pickT (by kernel_rfl) (L_mv (L_want (by kernel_rfl) (L_load b16 0 (.pointer (some ⟨cb8, 0, none⟩)) (by kernel_rfl) (by kernel_rfl) (cell_obj o_x7 rfl) (L_want (by kernel_rfl) (L_run (.pointer (some ⟨cb8, 0, none⟩)) (by kernel_rfl) (by kernel_rfl) (L_want (by kernel_rfl) (L_run (.pointer (some ⟨cb8, 2, none⟩)) (by kernel_rfl) (by kernel_rfl) (L_want (by kernel_rfl) (L_load cb8 2 (.int .i64 90) (by kernel_rfl) (by kernel_rfl) (cell_obj o_cb8 rfl) (L_want (by kernel_rfl) (L_run (.bool true) (by kernel_rfl) (by kernel_rfl) (L_pickT (by kernel_rfl) (L_mv (L_want (by kernel_rfl) (L_mv (L_want (by kernel_rfl) (L_seqT ([97, 41, 255] : List UInt8) ([97, 41, 255] : List UInt8) (by rfl) (by kernel_rfl) (by kernel_rfl) (L_pickT (by kernel_rfl) (L_mv (L_want (by kernel_rfl) (L_mv (L_want (by kernel_rfl) (L_run (.bool true) (by kernel_rfl) (by kernel_rfl) (L_pickT (by kernel_rfl) (L_as (L_nil (thenQ_normal (W_ret ?_))))))))))))))))))))))))))))))))))
  refine end_ret [.tmp 0] [(.bool true)] rfl rfl ⟨by kernel_rfl, trivial⟩ ?_
  have e0 : true = true := by rfl
  exact ⟨congrArg Value.bool e0, hb⟩

end Go.Proofs.YtjdcmeoiommglaaGreatDoor
