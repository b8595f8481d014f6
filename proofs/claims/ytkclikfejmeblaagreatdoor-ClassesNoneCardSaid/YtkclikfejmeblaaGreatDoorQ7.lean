/- Joined by my program pack.py out of my own texts: Wclaw. -/
import Derived.Test.YtkclikfejmeblaaGreatDoorProg
import Derived.Tactics2
import Derived.Test.YtkclikfejmeblaaGreatDoorQ2
import Derived.Test.YtkclikfejmeblaaGreatDoorQ3
import Derived.Test.YtkclikfejmeblaaGreatDoorQ4
import Derived.Test.YtkclikfejmeblaaGreatDoorQ5
import Derived.Test.YtkclikfejmeblaaGreatDoorQ6
/- === Wclaw === -/
section
/- Walks, written by my program walk.py out of the specification claw.py: each theorem says what one function returns and that it leaves memory as it was. -/
namespace Go.Proofs.YtkclikfejmeblaaGreatDoor
open Go Go.RowKit Go.FK
set_option linter.unusedVariables false
set_option linter.unusedSimpArgs false

set_option maxRecDepth 100000
theorem lives_tab : clsF ([35, 32, 64, 109, 105, 115, 115, 105, 110, 103, 58, 32, 48, 48, 48, 48, 46, 46, 49, 48, 70, 70, 70, 70, 59, 32, 76, 101, 102, 116, 95, 84, 111, 95, 82, 105, 103, 104, 116, 10, 35, 32, 64, 109, 105, 115, 115, 105, 110, 103, 58, 32, 48, 53, 57, 48, 46, 46, 48, 53, 70, 70, 59, 32, 82, 10, 10, 48, 48, 51, 48, 46, 46, 48, 48, 51, 57, 32, 59, 32, 69, 78, 32, 35, 32, 100, 105, 103, 105, 116, 115, 10, 48, 53, 68, 48, 32, 59, 32, 82, 105, 103, 104, 116, 32, 84, 111, 32, 76, 101, 102, 116, 10] : List UInt8) = (((([(48, 57, 4), (1488, 1488, 2)] : List SpI), ([(48, 57, 4), (1488, 1488, 5)] : List SpI), ([(0, 1114111, 1), (1424, 1535, 2)] : List SpI)) : TabC), 0, 0) := by kernel_rfl


set_option maxHeartbeats 4000000 in
set_option maxRecDepth 100000 in
theorem c_lives7 (w : World) {m_ml : Int} (hml : w.cell? ⟨1, 0, none⟩ = some (.int .i64 m_ml)) :
    Calls Tryz.prog 9 #[] w (Ret fun v w' => v = (.bool true) ∧ Below w.heap.size w w') := by
  refine enter (args := []) Tryz.func9 rfl (by kernel_rfl : _ = 45) (by kernel_rfl) ?_
  have hb := Below.refl w.heap.size w
  have hs : w.heap.size ≤ w.heap.size := Nat.le_refl _
  refine W_seq (W_region (L_as (L_nil (thenQ_normal (W_seq (W_region (L_call 10 [(S ([102] : List UInt8)), (S ([35, 32, 64, 109, 105, 115, 115, 105, 110, 103, 58, 32, 48, 48, 48, 48, 46, 46, 49, 48, 70, 70, 70, 70, 59, 32, 76, 101, 102, 116, 95, 84, 111, 95, 82, 105, 103, 104, 116, 10, 35, 32, 64, 109, 105, 115, 115, 105, 110, 103, 58, 32, 48, 53, 57, 48, 46, 46, 48, 53, 70, 70, 59, 32, 82, 10, 10, 48, 48, 51, 48, 46, 46, 48, 48, 51, 57, 32, 59, 32, 69, 78, 32, 35, 32, 100, 105, 103, 105, 116, 115, 10, 48, 53, 68, 48, 32, 59, 32, 82, 105, 103, 104, 116, 32, 84, 111, 32, 76, 101, 102, 116, 10] : List UInt8))] (by kernel_rfl) (by kernel_rfl) (c_classes_Read_ok ([102] : List UInt8) ([35, 32, 64, 109, 105, 115, 115, 105, 110, 103, 58, 32, 48, 48, 48, 48, 46, 46, 49, 48, 70, 70, 70, 70, 59, 32, 76, 101, 102, 116, 95, 84, 111, 95, 82, 105, 103, 104, 116, 10, 35, 32, 64, 109, 105, 115, 115, 105, 110, 103, 58, 32, 48, 53, 57, 48, 46, 46, 48, 53, 70, 70, 59, 32, 82, 10, 10, 48, 48, 51, 48, 46, 46, 48, 48, 51, 57, 32, 59, 32, 69, 78, 32, 35, 32, 100, 105, 103, 105, 116, 115, 10, 48, 53, 68, 48, 32, 59, 32, 82, 105, 103, 104, 116, 32, 84, 111, 32, 76, 101, 102, 116, 10] : List UInt8) _ (gcell_below hml hb) (by first | omega | decide | kernel_rfl | (simp; done)) (by first | kernel_rfl | assumption)) ?_)))))))
  rintro _ w5 ⟨q1, q2, q3, q4, cb8, cb9, cb10, cb11, rfl, r_q1, r_q2, r_q3, r_q4, o_cb8, g_cb8, o_cb9, g_cb9, o_cb10, g_cb10, o_cb11, g_cb11, ne_cb8_cb9, ne_cb8_cb10, ne_cb8_cb11, ne_cb9_cb10, ne_cb9_cb11, ne_cb10_cb11, hB6⟩
  replace g_cb8 := Nat.le_trans hs g_cb8
  replace g_cb9 := Nat.le_trans hs g_cb9
  replace g_cb10 := Nat.le_trans hs g_cb10
  replace g_cb11 := Nat.le_trans hs g_cb11
  have ne_cb9_cb8 := NE.symm ne_cb8_cb9
  have ne_cb10_cb8 := NE.symm ne_cb8_cb10
  have ne_cb11_cb8 := NE.symm ne_cb8_cb11
  have ne_cb10_cb9 := NE.symm ne_cb9_cb10
  have ne_cb11_cb9 := NE.symm ne_cb9_cb11
  have ne_cb11_cb10 := NE.symm ne_cb10_cb11
  replace r_q1 := r_q1.base hs
  replace r_q2 := r_q2.base hs
  replace r_q3 := r_q3.base hs
  replace r_q4 := r_q4.base hs
  replace hb := hb.trans (hB6.mono hs)
  replace hs := Nat.le_trans hs (hB6.size)
  refine L_mv (L_run (.pointer (some ⟨cb8, 0, none⟩)) (by kernel_rfl) (by kernel_rfl) (L_run .nilIface (by kernel_rfl) (by kernel_rfl) (L_as (L_as (L_nil (thenQ_normal (W_seq (W_seq (W_region (L_mv (L_run (.bool false) (by kernel_rfl) (by kernel_rfl) (L_mv (L_want (by kernel_rfl) (L_mv (L_want (by kernel_rfl) (L_run (.bool false) (by kernel_rfl) (by kernel_rfl) (L_pickF (by kernel_rfl) (L_nil (thenQ_normal (W_false (by kernel_rfl) (W_skip (thenQ_normal (W_seq (W_region (L_mv (L_call 13 [(.pointer (some ⟨cb8, 0, none⟩)), (.int .i32 49)] (by kernel_rfl) (by kernel_rfl) (c_tGiven cb8 cb9 cb10 q1 cb11 49 q2 ((clsF ([35, 32, 64, 109, 105, 115, 115, 105, 110, 103, 58, 32, 48, 48, 48, 48, 46, 46, 49, 48, 70, 70, 70, 70, 59, 32, 76, 101, 102, 116, 95, 84, 111, 95, 82, 105, 103, 104, 116, 10, 35, 32, 64, 109, 105, 115, 115, 105, 110, 103, 58, 32, 48, 53, 57, 48, 46, 46, 48, 53, 70, 70, 59, 32, 82, 10, 10, 48, 48, 51, 48, 46, 46, 48, 48, 51, 57, 32, 59, 32, 69, 78, 32, 35, 32, 100, 105, 103, 105, 116, 115, 10, 48, 53, 68, 48, 32, 59, 32, 82, 105, 103, 104, 116, 32, 84, 111, 32, 76, 101, 102, 116, 10] : List UInt8)).1.1) _ o_cb8 o_cb9 r_q2.rd (by first | exact (cls_ok _).1.rise | exact (cls_ok _).2.1.rise | exact (whole_ok _).rise)) ?_))))))))))))))))))))))))))
  rintro _ w12 ⟨rfl, hB13⟩
  replace hb := hb.trans (hB13.mono hs)
  replace hs := Nat.le_trans hs (hB13.size)
  replace o_cb8 := obj_below o_cb8 hB13
  replace o_cb9 := obj_below o_cb9 hB13
  replace o_cb10 := obj_below o_cb10 hB13
  replace o_cb11 := obj_below o_cb11 hB13
  replace r_q1 := r_q1.below hB13
  replace r_q2 := r_q2.below hB13
  replace r_q3 := r_q3.below hB13
  replace r_q4 := r_q4.below hB13
  refine L_mv (L_run (.int .u8 ((atM 0 ((clsF ([35, 32, 64, 109, 105, 115, 115, 105, 110, 103, 58, 32, 48, 48, 48, 48, 46, 46, 49, 48, 70, 70, 70, 70, 59, 32, 76, 101, 102, 116, 95, 84, 111, 95, 82, 105, 103, 104, 116, 10, 35, 32, 64, 109, 105, 115, 115, 105, 110, 103, 58, 32, 48, 53, 57, 48, 46, 46, 48, 53, 70, 70, 59, 32, 82, 10, 10, 48, 48, 51, 48, 46, 46, 48, 48, 51, 57, 32, 59, 32, 69, 78, 32, 35, 32, 100, 105, 103, 105, 116, 115, 10, 48, 53, 68, 48, 32, 59, 32, 82, 105, 103, 104, 116, 32, 84, 111, 32, 76, 101, 102, 116, 10] : List UInt8)).1.1) (plainF 49)).1)) (by kernel_rfl) (by kernel_rfl) (L_run (.bool ((atM 0 ((clsF ([35, 32, 64, 109, 105, 115, 115, 105, 110, 103, 58, 32, 48, 48, 48, 48, 46, 46, 49, 48, 70, 70, 70, 70, 59, 32, 76, 101, 102, 116, 95, 84, 111, 95, 82, 105, 103, 104, 116, 10, 35, 32, 64, 109, 105, 115, 115, 105, 110, 103, 58, 32, 48, 53, 57, 48, 46, 46, 48, 53, 70, 70, 59, 32, 82, 10, 10, 48, 48, 51, 48, 46, 46, 48, 48, 51, 57, 32, 59, 32, 69, 78, 32, 35, 32, 100, 105, 103, 105, 116, 115, 10, 48, 53, 68, 48, 32, 59, 32, 82, 105, 103, 104, 116, 32, 84, 111, 32, 76, 101, 102, 116, 10] : List UInt8)).1.1) (plainF 49)).2)) (by kernel_rfl) (by kernel_rfl) (put_split ((atM 0 ((clsF ([35, 32, 64, 109, 105, 115, 115, 105, 110, 103, 58, 32, 48, 48, 48, 48, 46, 46, 49, 48, 70, 70, 70, 70, 59, 32, 76, 101, 102, 116, 95, 84, 111, 95, 82, 105, 103, 104, 116, 10, 35, 32, 64, 109, 105, 115, 115, 105, 110, 103, 58, 32, 48, 53, 57, 48, 46, 46, 48, 53, 70, 70, 59, 32, 82, 10, 10, 48, 48, 51, 48, 46, 46, 48, 48, 51, 57, 32, 59, 32, 69, 78, 32, 35, 32, 100, 105, 103, 105, 116, 115, 10, 48, 53, 68, 48, 32, 59, 32, 82, 105, 103, 104, 116, 32, 84, 111, 32, 76, 101, 102, 116, 10] : List UInt8)).1.1) (plainF 49)).2) ?_ ?_)))
  · intro h15
    refine L_as (L_as (L_nil (thenQ_normal (W_seq (W_region (L_mv (L_call 12 [(.pointer (some ⟨cb8, 0, none⟩)), (.int .i32 49)] (by kernel_rfl) (by kernel_rfl) (c_tClass cb8 cb9 cb10 q1 cb11 49 q4 (wholeF (clsF ([35, 32, 64, 109, 105, 115, 115, 105, 110, 103, 58, 32, 48, 48, 48, 48, 46, 46, 49, 48, 70, 70, 70, 70, 59, 32, 76, 101, 102, 116, 95, 84, 111, 95, 82, 105, 103, 104, 116, 10, 35, 32, 64, 109, 105, 115, 115, 105, 110, 103, 58, 32, 48, 53, 57, 48, 46, 46, 48, 53, 70, 70, 59, 32, 82, 10, 10, 48, 48, 51, 48, 46, 46, 48, 48, 51, 57, 32, 59, 32, 69, 78, 32, 35, 32, 100, 105, 103, 105, 116, 115, 10, 48, 53, 68, 48, 32, 59, 32, 82, 105, 103, 104, 116, 32, 84, 111, 32, 76, 101, 102, 116, 10] : List UInt8)).1) _ o_cb8 o_cb11 r_q4.rd (by first | exact (cls_ok _).1.rise | exact (cls_ok _).2.1.rise | exact (whole_ok _).rise)) ?_)))))))
    rintro _ w16 ⟨rfl, hB17⟩
    replace hb := hb.trans (hB17.mono hs)
    replace hs := Nat.le_trans hs (hB17.size)
    replace o_cb8 := obj_below o_cb8 hB17
    replace o_cb9 := obj_below o_cb9 hB17
    replace o_cb10 := obj_below o_cb10 hB17
    replace o_cb11 := obj_below o_cb11 hB17
    replace r_q1 := r_q1.below hB17
    replace r_q2 := r_q2.below hB17
    replace r_q3 := r_q3.below hB17
    replace r_q4 := r_q4.below hB17
    refine L_cmp .u8 ((atM 0 (wholeF (clsF ([35, 32, 64, 109, 105, 115, 115, 105, 110, 103, 58, 32, 48, 48, 48, 48, 46, 46, 49, 48, 70, 70, 70, 70, 59, 32, 76, 101, 102, 116, 95, 84, 111, 95, 82, 105, 103, 104, 116, 10, 35, 32, 64, 109, 105, 115, 115, 105, 110, 103, 58, 32, 48, 53, 57, 48, 46, 46, 48, 53, 70, 70, 59, 32, 82, 10, 10, 48, 48, 51, 48, 46, 46, 48, 48, 51, 57, 32, 59, 32, 69, 78, 32, 35, 32, 100, 105, 103, 105, 116, 115, 10, 48, 53, 68, 48, 32, 59, 32, 82, 105, 103, 104, 116, 32, 84, 111, 32, 76, 101, 102, 116, 10] : List UInt8)).1) (plainF 49)).1) 4 ((atM 0 (wholeF (clsF ([35, 32, 64, 109, 105, 115, 115, 105, 110, 103, 58, 32, 48, 48, 48, 48, 46, 46, 49, 48, 70, 70, 70, 70, 59, 32, 76, 101, 102, 116, 95, 84, 111, 95, 82, 105, 103, 104, 116, 10, 35, 32, 64, 109, 105, 115, 115, 105, 110, 103, 58, 32, 48, 53, 57, 48, 46, 46, 48, 53, 70, 70, 59, 32, 82, 10, 10, 48, 48, 51, 48, 46, 46, 48, 48, 51, 57, 32, 59, 32, 69, 78, 32, 35, 32, 100, 105, 103, 105, 116, 115, 10, 48, 53, 68, 48, 32, 59, 32, 82, 105, 103, 104, 116, 32, 84, 111, 32, 76, 101, 102, 116, 10] : List UInt8)).1) (plainF 49)).1 = 4) rfl (cmp_eq ((atM 0 (wholeF (clsF ([35, 32, 64, 109, 105, 115, 115, 105, 110, 103, 58, 32, 48, 48, 48, 48, 46, 46, 49, 48, 70, 70, 70, 70, 59, 32, 76, 101, 102, 116, 95, 84, 111, 95, 82, 105, 103, 104, 116, 10, 35, 32, 64, 109, 105, 115, 115, 105, 110, 103, 58, 32, 48, 53, 57, 48, 46, 46, 48, 53, 70, 70, 59, 32, 82, 10, 10, 48, 48, 51, 48, 46, 46, 48, 48, 51, 57, 32, 59, 32, 69, 78, 32, 35, 32, 100, 105, 103, 105, 116, 115, 10, 48, 53, 68, 48, 32, 59, 32, 82, 105, 103, 104, 116, 32, 84, 111, 32, 76, 101, 102, 116, 10] : List UInt8)).1) (plainF 49)).1) 4) (by kernel_rfl) (by kernel_rfl) ?_ ?_
    · intro h19
      replace h19 : (atM 0 (wholeF (clsF ([35, 32, 64, 109, 105, 115, 115, 105, 110, 103, 58, 32, 48, 48, 48, 48, 46, 46, 49, 48, 70, 70, 70, 70, 59, 32, 76, 101, 102, 116, 95, 84, 111, 95, 82, 105, 103, 104, 116, 10, 35, 32, 64, 109, 105, 115, 115, 105, 110, 103, 58, 32, 48, 53, 57, 48, 46, 46, 48, 53, 70, 70, 59, 32, 82, 10, 10, 48, 48, 51, 48, 46, 46, 48, 48, 51, 57, 32, 59, 32, 69, 78, 32, 35, 32, 100, 105, 103, 105, 116, 115, 10, 48, 53, 68, 48, 32, 59, 32, 82, 105, 103, 104, 116, 32, 84, 111, 32, 76, 101, 102, 116, 10] : List UInt8)).1) (plainF 49)).1 = 4 := by omega
      refine L_mv (L_want (by kernel_rfl) (L_mv (L_want (by kernel_rfl) (L_call 12 [(.pointer (some ⟨cb8, 0, none⟩)), (.int .i32 1425)] (by kernel_rfl) (by kernel_rfl) (c_tClass cb8 cb9 cb10 q1 cb11 1425 q4 (wholeF (clsF ([35, 32, 64, 109, 105, 115, 115, 105, 110, 103, 58, 32, 48, 48, 48, 48, 46, 46, 49, 48, 70, 70, 70, 70, 59, 32, 76, 101, 102, 116, 95, 84, 111, 95, 82, 105, 103, 104, 116, 10, 35, 32, 64, 109, 105, 115, 115, 105, 110, 103, 58, 32, 48, 53, 57, 48, 46, 46, 48, 53, 70, 70, 59, 32, 82, 10, 10, 48, 48, 51, 48, 46, 46, 48, 48, 51, 57, 32, 59, 32, 69, 78, 32, 35, 32, 100, 105, 103, 105, 116, 115, 10, 48, 53, 68, 48, 32, 59, 32, 82, 105, 103, 104, 116, 32, 84, 111, 32, 76, 101, 102, 116, 10] : List UInt8)).1) _ o_cb8 o_cb11 r_q4.rd (by first | exact (cls_ok _).1.rise | exact (cls_ok _).2.1.rise | exact (whole_ok _).rise)) ?_))))
      rintro _ w20 ⟨rfl, hB21⟩
      replace hb := hb.trans (hB21.mono hs)
      replace hs := Nat.le_trans hs (hB21.size)
      replace o_cb8 := obj_below o_cb8 hB21
      replace o_cb9 := obj_below o_cb9 hB21
      replace o_cb10 := obj_below o_cb10 hB21
      replace o_cb11 := obj_below o_cb11 hB21
      replace r_q1 := r_q1.below hB21
      replace r_q2 := r_q2.below hB21
      replace r_q3 := r_q3.below hB21
      replace r_q4 := r_q4.below hB21
      refine L_want (by kernel_rfl) (L_cmp .u8 ((atM 0 (wholeF (clsF ([35, 32, 64, 109, 105, 115, 115, 105, 110, 103, 58, 32, 48, 48, 48, 48, 46, 46, 49, 48, 70, 70, 70, 70, 59, 32, 76, 101, 102, 116, 95, 84, 111, 95, 82, 105, 103, 104, 116, 10, 35, 32, 64, 109, 105, 115, 115, 105, 110, 103, 58, 32, 48, 53, 57, 48, 46, 46, 48, 53, 70, 70, 59, 32, 82, 10, 10, 48, 48, 51, 48, 46, 46, 48, 48, 51, 57, 32, 59, 32, 69, 78, 32, 35, 32, 100, 105, 103, 105, 116, 115, 10, 48, 53, 68, 48, 32, 59, 32, 82, 105, 103, 104, 116, 32, 84, 111, 32, 76, 101, 102, 116, 10] : List UInt8)).1) (plainF 1425)).1) 2 ((atM 0 (wholeF (clsF ([35, 32, 64, 109, 105, 115, 115, 105, 110, 103, 58, 32, 48, 48, 48, 48, 46, 46, 49, 48, 70, 70, 70, 70, 59, 32, 76, 101, 102, 116, 95, 84, 111, 95, 82, 105, 103, 104, 116, 10, 35, 32, 64, 109, 105, 115, 115, 105, 110, 103, 58, 32, 48, 53, 57, 48, 46, 46, 48, 53, 70, 70, 59, 32, 82, 10, 10, 48, 48, 51, 48, 46, 46, 48, 48, 51, 57, 32, 59, 32, 69, 78, 32, 35, 32, 100, 105, 103, 105, 116, 115, 10, 48, 53, 68, 48, 32, 59, 32, 82, 105, 103, 104, 116, 32, 84, 111, 32, 76, 101, 102, 116, 10] : List UInt8)).1) (plainF 1425)).1 = 2) rfl (cmp_eq ((atM 0 (wholeF (clsF ([35, 32, 64, 109, 105, 115, 115, 105, 110, 103, 58, 32, 48, 48, 48, 48, 46, 46, 49, 48, 70, 70, 70, 70, 59, 32, 76, 101, 102, 116, 95, 84, 111, 95, 82, 105, 103, 104, 116, 10, 35, 32, 64, 109, 105, 115, 115, 105, 110, 103, 58, 32, 48, 53, 57, 48, 46, 46, 48, 53, 70, 70, 59, 32, 82, 10, 10, 48, 48, 51, 48, 46, 46, 48, 48, 51, 57, 32, 59, 32, 69, 78, 32, 35, 32, 100, 105, 103, 105, 116, 115, 10, 48, 53, 68, 48, 32, 59, 32, 82, 105, 103, 104, 116, 32, 84, 111, 32, 76, 101, 102, 116, 10] : List UInt8)).1) (plainF 1425)).1) 2) (by kernel_rfl) (by kernel_rfl) ?_ ?_)
      · intro h23
        replace h23 : (atM 0 (wholeF (clsF ([35, 32, 64, 109, 105, 115, 115, 105, 110, 103, 58, 32, 48, 48, 48, 48, 46, 46, 49, 48, 70, 70, 70, 70, 59, 32, 76, 101, 102, 116, 95, 84, 111, 95, 82, 105, 103, 104, 116, 10, 35, 32, 64, 109, 105, 115, 115, 105, 110, 103, 58, 32, 48, 53, 57, 48, 46, 46, 48, 53, 70, 70, 59, 32, 82, 10, 10, 48, 48, 51, 48, 46, 46, 48, 48, 51, 57, 32, 59, 32, 69, 78, 32, 35, 32, 100, 105, 103, 105, 116, 115, 10, 48, 53, 68, 48, 32, 59, 32, 82, 105, 103, 104, 116, 32, 84, 111, 32, 76, 101, 102, 116, 10] : List UInt8)).1) (plainF 1425)).1 = 2 := by omega
        refine L_pickT (by kernel_rfl) (L_mv (L_want (by kernel_rfl) (L_mv (L_want (by kernel_rfl) (L_call 12 [(.pointer (some ⟨cb8, 0, none⟩)), (.int .i32 1536)] (by kernel_rfl) (by kernel_rfl) (c_tClass cb8 cb9 cb10 q1 cb11 1536 q4 (wholeF (clsF ([35, 32, 64, 109, 105, 115, 115, 105, 110, 103, 58, 32, 48, 48, 48, 48, 46, 46, 49, 48, 70, 70, 70, 70, 59, 32, 76, 101, 102, 116, 95, 84, 111, 95, 82, 105, 103, 104, 116, 10, 35, 32, 64, 109, 105, 115, 115, 105, 110, 103, 58, 32, 48, 53, 57, 48, 46, 46, 48, 53, 70, 70, 59, 32, 82, 10, 10, 48, 48, 51, 48, 46, 46, 48, 48, 51, 57, 32, 59, 32, 69, 78, 32, 35, 32, 100, 105, 103, 105, 116, 115, 10, 48, 53, 68, 48, 32, 59, 32, 82, 105, 103, 104, 116, 32, 84, 111, 32, 76, 101, 102, 116, 10] : List UInt8)).1) _ o_cb8 o_cb11 r_q4.rd (by first | exact (cls_ok _).1.rise | exact (cls_ok _).2.1.rise | exact (whole_ok _).rise)) ?_)))))
        rintro _ w24 ⟨rfl, hB25⟩
        replace hb := hb.trans (hB25.mono hs)
        replace hs := Nat.le_trans hs (hB25.size)
        replace o_cb8 := obj_below o_cb8 hB25
        replace o_cb9 := obj_below o_cb9 hB25
        replace o_cb10 := obj_below o_cb10 hB25
        replace o_cb11 := obj_below o_cb11 hB25
        replace r_q1 := r_q1.below hB25
        replace r_q2 := r_q2.below hB25
        replace r_q3 := r_q3.below hB25
        replace r_q4 := r_q4.below hB25
        refine L_want (by kernel_rfl) (L_cmp .u8 ((atM 0 (wholeF (clsF ([35, 32, 64, 109, 105, 115, 115, 105, 110, 103, 58, 32, 48, 48, 48, 48, 46, 46, 49, 48, 70, 70, 70, 70, 59, 32, 76, 101, 102, 116, 95, 84, 111, 95, 82, 105, 103, 104, 116, 10, 35, 32, 64, 109, 105, 115, 115, 105, 110, 103, 58, 32, 48, 53, 57, 48, 46, 46, 48, 53, 70, 70, 59, 32, 82, 10, 10, 48, 48, 51, 48, 46, 46, 48, 48, 51, 57, 32, 59, 32, 69, 78, 32, 35, 32, 100, 105, 103, 105, 116, 115, 10, 48, 53, 68, 48, 32, 59, 32, 82, 105, 103, 104, 116, 32, 84, 111, 32, 76, 101, 102, 116, 10] : List UInt8)).1) (plainF 1536)).1) 1 ((atM 0 (wholeF (clsF ([35, 32, 64, 109, 105, 115, 115, 105, 110, 103, 58, 32, 48, 48, 48, 48, 46, 46, 49, 48, 70, 70, 70, 70, 59, 32, 76, 101, 102, 116, 95, 84, 111, 95, 82, 105, 103, 104, 116, 10, 35, 32, 64, 109, 105, 115, 115, 105, 110, 103, 58, 32, 48, 53, 57, 48, 46, 46, 48, 53, 70, 70, 59, 32, 82, 10, 10, 48, 48, 51, 48, 46, 46, 48, 48, 51, 57, 32, 59, 32, 69, 78, 32, 35, 32, 100, 105, 103, 105, 116, 115, 10, 48, 53, 68, 48, 32, 59, 32, 82, 105, 103, 104, 116, 32, 84, 111, 32, 76, 101, 102, 116, 10] : List UInt8)).1) (plainF 1536)).1 = 1) rfl (cmp_eq ((atM 0 (wholeF (clsF ([35, 32, 64, 109, 105, 115, 115, 105, 110, 103, 58, 32, 48, 48, 48, 48, 46, 46, 49, 48, 70, 70, 70, 70, 59, 32, 76, 101, 102, 116, 95, 84, 111, 95, 82, 105, 103, 104, 116, 10, 35, 32, 64, 109, 105, 115, 115, 105, 110, 103, 58, 32, 48, 53, 57, 48, 46, 46, 48, 53, 70, 70, 59, 32, 82, 10, 10, 48, 48, 51, 48, 46, 46, 48, 48, 51, 57, 32, 59, 32, 69, 78, 32, 35, 32, 100, 105, 103, 105, 116, 115, 10, 48, 53, 68, 48, 32, 59, 32, 82, 105, 103, 104, 116, 32, 84, 111, 32, 76, 101, 102, 116, 10] : List UInt8)).1) (plainF 1536)).1) 1) (by kernel_rfl) (by kernel_rfl) ?_ ?_)
        · intro h27
          replace h27 : (atM 0 (wholeF (clsF ([35, 32, 64, 109, 105, 115, 115, 105, 110, 103, 58, 32, 48, 48, 48, 48, 46, 46, 49, 48, 70, 70, 70, 70, 59, 32, 76, 101, 102, 116, 95, 84, 111, 95, 82, 105, 103, 104, 116, 10, 35, 32, 64, 109, 105, 115, 115, 105, 110, 103, 58, 32, 48, 53, 57, 48, 46, 46, 48, 53, 70, 70, 59, 32, 82, 10, 10, 48, 48, 51, 48, 46, 46, 48, 48, 51, 57, 32, 59, 32, 69, 78, 32, 35, 32, 100, 105, 103, 105, 116, 115, 10, 48, 53, 68, 48, 32, 59, 32, 82, 105, 103, 104, 116, 32, 84, 111, 32, 76, 101, 102, 116, 10] : List UInt8)).1) (plainF 1536)).1 = 1 := by omega
          refine L_pickT (by kernel_rfl) (L_mv (L_want (by kernel_rfl) (L_mv (L_want (by kernel_rfl) (L_cmp .u8 ((atM 0 ((clsF ([35, 32, 64, 109, 105, 115, 115, 105, 110, 103, 58, 32, 48, 48, 48, 48, 46, 46, 49, 48, 70, 70, 70, 70, 59, 32, 76, 101, 102, 116, 95, 84, 111, 95, 82, 105, 103, 104, 116, 10, 35, 32, 64, 109, 105, 115, 115, 105, 110, 103, 58, 32, 48, 53, 57, 48, 46, 46, 48, 53, 70, 70, 59, 32, 82, 10, 10, 48, 48, 51, 48, 46, 46, 48, 48, 51, 57, 32, 59, 32, 69, 78, 32, 35, 32, 100, 105, 103, 105, 116, 115, 10, 48, 53, 68, 48, 32, 59, 32, 82, 105, 103, 104, 116, 32, 84, 111, 32, 76, 101, 102, 116, 10] : List UInt8)).1.1) (plainF 49)).1) 4 ((atM 0 ((clsF ([35, 32, 64, 109, 105, 115, 115, 105, 110, 103, 58, 32, 48, 48, 48, 48, 46, 46, 49, 48, 70, 70, 70, 70, 59, 32, 76, 101, 102, 116, 95, 84, 111, 95, 82, 105, 103, 104, 116, 10, 35, 32, 64, 109, 105, 115, 115, 105, 110, 103, 58, 32, 48, 53, 57, 48, 46, 46, 48, 53, 70, 70, 59, 32, 82, 10, 10, 48, 48, 51, 48, 46, 46, 48, 48, 51, 57, 32, 59, 32, 69, 78, 32, 35, 32, 100, 105, 103, 105, 116, 115, 10, 48, 53, 68, 48, 32, 59, 32, 82, 105, 103, 104, 116, 32, 84, 111, 32, 76, 101, 102, 116, 10] : List UInt8)).1.1) (plainF 49)).1 = 4) rfl (cmp_eq ((atM 0 ((clsF ([35, 32, 64, 109, 105, 115, 115, 105, 110, 103, 58, 32, 48, 48, 48, 48, 46, 46, 49, 48, 70, 70, 70, 70, 59, 32, 76, 101, 102, 116, 95, 84, 111, 95, 82, 105, 103, 104, 116, 10, 35, 32, 64, 109, 105, 115, 115, 105, 110, 103, 58, 32, 48, 53, 57, 48, 46, 46, 48, 53, 70, 70, 59, 32, 82, 10, 10, 48, 48, 51, 48, 46, 46, 48, 48, 51, 57, 32, 59, 32, 69, 78, 32, 35, 32, 100, 105, 103, 105, 116, 115, 10, 48, 53, 68, 48, 32, 59, 32, 82, 105, 103, 104, 116, 32, 84, 111, 32, 76, 101, 102, 116, 10] : List UInt8)).1.1) (plainF 49)).1) 4) (by kernel_rfl) (by kernel_rfl) ?_ ?_)))))
          · intro h28
            replace h28 : (atM 0 ((clsF ([35, 32, 64, 109, 105, 115, 115, 105, 110, 103, 58, 32, 48, 48, 48, 48, 46, 46, 49, 48, 70, 70, 70, 70, 59, 32, 76, 101, 102, 116, 95, 84, 111, 95, 82, 105, 103, 104, 116, 10, 35, 32, 64, 109, 105, 115, 115, 105, 110, 103, 58, 32, 48, 53, 57, 48, 46, 46, 48, 53, 70, 70, 59, 32, 82, 10, 10, 48, 48, 51, 48, 46, 46, 48, 48, 51, 57, 32, 59, 32, 69, 78, 32, 35, 32, 100, 105, 103, 105, 116, 115, 10, 48, 53, 68, 48, 32, 59, 32, 82, 105, 103, 104, 116, 32, 84, 111, 32, 76, 101, 102, 116, 10] : List UInt8)).1.1) (plainF 49)).1 = 4 := by omega
            refine L_pickT (by kernel_rfl) (L_mv (L_want (by kernel_rfl) (L_mv (L_pickT (by kernel_rfl) (L_mv (L_want (by kernel_rfl) (L_mv (L_want (by kernel_rfl) (L_call 14 [(.pointer (some ⟨cb8, 0, none⟩)), (.int .i32 1488)] (by kernel_rfl) (by kernel_rfl) (c_tLine cb8 cb9 cb10 q1 cb11 1488 q3 ((clsF ([35, 32, 64, 109, 105, 115, 115, 105, 110, 103, 58, 32, 48, 48, 48, 48, 46, 46, 49, 48, 70, 70, 70, 70, 59, 32, 76, 101, 102, 116, 95, 84, 111, 95, 82, 105, 103, 104, 116, 10, 35, 32, 64, 109, 105, 115, 115, 105, 110, 103, 58, 32, 48, 53, 57, 48, 46, 46, 48, 53, 70, 70, 59, 32, 82, 10, 10, 48, 48, 51, 48, 46, 46, 48, 48, 51, 57, 32, 59, 32, 69, 78, 32, 35, 32, 100, 105, 103, 105, 116, 115, 10, 48, 53, 68, 48, 32, 59, 32, 82, 105, 103, 104, 116, 32, 84, 111, 32, 76, 101, 102, 116, 10] : List UInt8)).1.2.1) _ o_cb8 o_cb10 r_q3.rd (by first | exact (cls_ok _).1.rise | exact (cls_ok _).2.1.rise | exact (whole_ok _).rise)) ?_)))))))))
            rintro _ w29 ⟨rfl, hB30⟩
            replace hb := hb.trans (hB30.mono hs)
            replace hs := Nat.le_trans hs (hB30.size)
            replace o_cb8 := obj_below o_cb8 hB30
            replace o_cb9 := obj_below o_cb9 hB30
            replace o_cb10 := obj_below o_cb10 hB30
            replace o_cb11 := obj_below o_cb11 hB30
            replace r_q1 := r_q1.below hB30
            replace r_q2 := r_q2.below hB30
            replace r_q3 := r_q3.below hB30
            replace r_q4 := r_q4.below hB30
            refine L_want (by kernel_rfl) (L_cmp .i64 ((atM 0 ((clsF ([35, 32, 64, 109, 105, 115, 115, 105, 110, 103, 58, 32, 48, 48, 48, 48, 46, 46, 49, 48, 70, 70, 70, 70, 59, 32, 76, 101, 102, 116, 95, 84, 111, 95, 82, 105, 103, 104, 116, 10, 35, 32, 64, 109, 105, 115, 115, 105, 110, 103, 58, 32, 48, 53, 57, 48, 46, 46, 48, 53, 70, 70, 59, 32, 82, 10, 10, 48, 48, 51, 48, 46, 46, 48, 48, 51, 57, 32, 59, 32, 69, 78, 32, 35, 32, 100, 105, 103, 105, 116, 115, 10, 48, 53, 68, 48, 32, 59, 32, 82, 105, 103, 104, 116, 32, 84, 111, 32, 76, 101, 102, 116, 10] : List UInt8)).1.2.1) (plainF 1488)).1) 5 ((atM 0 ((clsF ([35, 32, 64, 109, 105, 115, 115, 105, 110, 103, 58, 32, 48, 48, 48, 48, 46, 46, 49, 48, 70, 70, 70, 70, 59, 32, 76, 101, 102, 116, 95, 84, 111, 95, 82, 105, 103, 104, 116, 10, 35, 32, 64, 109, 105, 115, 115, 105, 110, 103, 58, 32, 48, 53, 57, 48, 46, 46, 48, 53, 70, 70, 59, 32, 82, 10, 10, 48, 48, 51, 48, 46, 46, 48, 48, 51, 57, 32, 59, 32, 69, 78, 32, 35, 32, 100, 105, 103, 105, 116, 115, 10, 48, 53, 68, 48, 32, 59, 32, 82, 105, 103, 104, 116, 32, 84, 111, 32, 76, 101, 102, 116, 10] : List UInt8)).1.2.1) (plainF 1488)).1 = 5) rfl (cmp_eq ((atM 0 ((clsF ([35, 32, 64, 109, 105, 115, 115, 105, 110, 103, 58, 32, 48, 48, 48, 48, 46, 46, 49, 48, 70, 70, 70, 70, 59, 32, 76, 101, 102, 116, 95, 84, 111, 95, 82, 105, 103, 104, 116, 10, 35, 32, 64, 109, 105, 115, 115, 105, 110, 103, 58, 32, 48, 53, 57, 48, 46, 46, 48, 53, 70, 70, 59, 32, 82, 10, 10, 48, 48, 51, 48, 46, 46, 48, 48, 51, 57, 32, 59, 32, 69, 78, 32, 35, 32, 100, 105, 103, 105, 116, 115, 10, 48, 53, 68, 48, 32, 59, 32, 82, 105, 103, 104, 116, 32, 84, 111, 32, 76, 101, 102, 116, 10] : List UInt8)).1.2.1) (plainF 1488)).1) 5) (by kernel_rfl) (by kernel_rfl) ?_ ?_)
            · intro h32
              replace h32 : (atM 0 ((clsF ([35, 32, 64, 109, 105, 115, 115, 105, 110, 103, 58, 32, 48, 48, 48, 48, 46, 46, 49, 48, 70, 70, 70, 70, 59, 32, 76, 101, 102, 116, 95, 84, 111, 95, 82, 105, 103, 104, 116, 10, 35, 32, 64, 109, 105, 115, 115, 105, 110, 103, 58, 32, 48, 53, 57, 48, 46, 46, 48, 53, 70, 70, 59, 32, 82, 10, 10, 48, 48, 51, 48, 46, 46, 48, 48, 51, 57, 32, 59, 32, 69, 78, 32, 35, 32, 100, 105, 103, 105, 116, 115, 10, 48, 53, 68, 48, 32, 59, 32, 82, 105, 103, 104, 116, 32, 84, 111, 32, 76, 101, 102, 116, 10] : List UInt8)).1.2.1) (plainF 1488)).1 = 5 := by omega
              refine L_pickT (by kernel_rfl) (L_as (L_nil (thenQ_normal (W_ret ?_))))
              refine end_ret [.tmp 0] [(.bool true)] rfl rfl ⟨by kernel_rfl, trivial⟩ ?_
              have e0 : true = true := by first | rfl | (rw [lives_tab]; kernel_rfl)
              exact ⟨congrArg Value.bool e0, hb⟩
            · intro h33
              replace h33 : (atM 0 ((clsF ([35, 32, 64, 109, 105, 115, 115, 105, 110, 103, 58, 32, 48, 48, 48, 48, 46, 46, 49, 48, 70, 70, 70, 70, 59, 32, 76, 101, 102, 116, 95, 84, 111, 95, 82, 105, 103, 104, 116, 10, 35, 32, 64, 109, 105, 115, 115, 105, 110, 103, 58, 32, 48, 53, 57, 48, 46, 46, 48, 53, 70, 70, 59, 32, 82, 10, 10, 48, 48, 51, 48, 46, 46, 48, 48, 51, 57, 32, 59, 32, 69, 78, 32, 35, 32, 100, 105, 103, 105, 116, 115, 10, 48, 53, 68, 48, 32, 59, 32, 82, 105, 103, 104, 116, 32, 84, 111, 32, 76, 101, 102, 116, 10] : List UInt8)).1.2.1) (plainF 1488)).1 ≠ 5 := by omega
              exfalso; exact h33 (by rw [lives_tab]; kernel_rfl)
          · intro h34
            replace h34 : (atM 0 ((clsF ([35, 32, 64, 109, 105, 115, 115, 105, 110, 103, 58, 32, 48, 48, 48, 48, 46, 46, 49, 48, 70, 70, 70, 70, 59, 32, 76, 101, 102, 116, 95, 84, 111, 95, 82, 105, 103, 104, 116, 10, 35, 32, 64, 109, 105, 115, 115, 105, 110, 103, 58, 32, 48, 53, 57, 48, 46, 46, 48, 53, 70, 70, 59, 32, 82, 10, 10, 48, 48, 51, 48, 46, 46, 48, 48, 51, 57, 32, 59, 32, 69, 78, 32, 35, 32, 100, 105, 103, 105, 116, 115, 10, 48, 53, 68, 48, 32, 59, 32, 82, 105, 103, 104, 116, 32, 84, 111, 32, 76, 101, 102, 116, 10] : List UInt8)).1.1) (plainF 49)).1 ≠ 4 := by omega
            exfalso; exact h34 (by rw [lives_tab]; kernel_rfl)
        · intro h35
          replace h35 : (atM 0 (wholeF (clsF ([35, 32, 64, 109, 105, 115, 115, 105, 110, 103, 58, 32, 48, 48, 48, 48, 46, 46, 49, 48, 70, 70, 70, 70, 59, 32, 76, 101, 102, 116, 95, 84, 111, 95, 82, 105, 103, 104, 116, 10, 35, 32, 64, 109, 105, 115, 115, 105, 110, 103, 58, 32, 48, 53, 57, 48, 46, 46, 48, 53, 70, 70, 59, 32, 82, 10, 10, 48, 48, 51, 48, 46, 46, 48, 48, 51, 57, 32, 59, 32, 69, 78, 32, 35, 32, 100, 105, 103, 105, 116, 115, 10, 48, 53, 68, 48, 32, 59, 32, 82, 105, 103, 104, 116, 32, 84, 111, 32, 76, 101, 102, 116, 10] : List UInt8)).1) (plainF 1536)).1 ≠ 1 := by omega
          exfalso; exact h35 (by rw [lives_tab]; kernel_rfl)
      · intro h36
        replace h36 : (atM 0 (wholeF (clsF ([35, 32, 64, 109, 105, 115, 115, 105, 110, 103, 58, 32, 48, 48, 48, 48, 46, 46, 49, 48, 70, 70, 70, 70, 59, 32, 76, 101, 102, 116, 95, 84, 111, 95, 82, 105, 103, 104, 116, 10, 35, 32, 64, 109, 105, 115, 115, 105, 110, 103, 58, 32, 48, 53, 57, 48, 46, 46, 48, 53, 70, 70, 59, 32, 82, 10, 10, 48, 48, 51, 48, 46, 46, 48, 48, 51, 57, 32, 59, 32, 69, 78, 32, 35, 32, 100, 105, 103, 105, 116, 115, 10, 48, 53, 68, 48, 32, 59, 32, 82, 105, 103, 104, 116, 32, 84, 111, 32, 76, 101, 102, 116, 10] : List UInt8)).1) (plainF 1425)).1 ≠ 2 := by omega
        exfalso; exact h36 (by rw [lives_tab]; kernel_rfl)
    · intro h37
      replace h37 : (atM 0 (wholeF (clsF ([35, 32, 64, 109, 105, 115, 115, 105, 110, 103, 58, 32, 48, 48, 48, 48, 46, 46, 49, 48, 70, 70, 70, 70, 59, 32, 76, 101, 102, 116, 95, 84, 111, 95, 82, 105, 103, 104, 116, 10, 35, 32, 64, 109, 105, 115, 115, 105, 110, 103, 58, 32, 48, 53, 57, 48, 46, 46, 48, 53, 70, 70, 59, 32, 82, 10, 10, 48, 48, 51, 48, 46, 46, 48, 48, 51, 57, 32, 59, 32, 69, 78, 32, 35, 32, 100, 105, 103, 105, 116, 115, 10, 48, 53, 68, 48, 32, 59, 32, 82, 105, 103, 104, 116, 32, 84, 111, 32, 76, 101, 102, 116, 10] : List UInt8)).1) (plainF 49)).1 ≠ 4 := by omega
      exfalso; exact h37 (by rw [lives_tab]; kernel_rfl)
  · intro h38
    exfalso; rw [lives_tab] at h38; exact absurd h38 (by decide +kernel)

set_option maxHeartbeats 4000000 in
set_option maxRecDepth 100000 in
theorem c_furrowlaw07_ClassesNames (w : World) {m_ml : Int} (hml : w.cell? ⟨1, 0, none⟩ = some (.int .i64 m_ml)) :
    Calls Tryz.prog 3 #[] w (Ret fun v w' => v = (.bool true) ∧ Below w.heap.size w w') := by
  refine enter (args := []) Tryz.func3 rfl (by kernel_rfl : _ = 4) (by kernel_rfl) ?_
  have hb := Below.refl w.heap.size w
  have hs : w.heap.size ≤ w.heap.size := Nat.le_refl _
  refine W_seq (W_region (L_as (L_nil (thenQ_normal (W_seq (W_region (L_mv (L_want (by kernel_rfl) (L_call 9 [] (by kernel_rfl) (by kernel_rfl) (c_lives7  _ (gcell_below hml hb)) ?_)))))))))
  rintro _ w1 ⟨rfl, hB2⟩
  replace hb := hb.trans (hB2.mono hs)
  replace hs := Nat.le_trans hs (hB2.size)
  refine L_pickT (by kernel_rfl) (L_as (L_nil (thenQ_normal (W_ret ?_))))
  refine end_ret [.tmp 0] [(.bool true)] rfl rfl ⟨by kernel_rfl, trivial⟩ ?_
  have e0 : true = true := by rfl
  exact ⟨congrArg Value.bool e0, hb⟩

set_option maxHeartbeats 4000000 in
set_option maxRecDepth 100000 in
theorem c_furrowlaw07_ClassesNone (r : Int) (w : World) {m_ml : Int} (hml : w.cell? ⟨1, 0, none⟩ = some (.int .i64 m_ml)) :
    Calls Tryz.prog 6 #[(.int .i32 r)] w (Ret fun v w' => v = (.bool true) ∧ Below w.heap.size w w') := by
  refine enter (args := [(.int .i32 r)]) Tryz.func6 rfl (by kernel_rfl : _ = 52) (by kernel_rfl) ?_
  have hb := Below.refl w.heap.size w
  have hs : w.heap.size ≤ w.heap.size := Nat.le_refl _
  refine W_seq (W_region (L_as (L_nil (thenQ_normal (W_seq (W_region (L_as (L_nil (thenQ_normal (W_seq (W_region (L_mv (L_mv (L_call 13 [(.pointer none), (.int .i32 r)] (by kernel_rfl) (by kernel_rfl) (c_tGiven0 r _ ) ?_))))))))))))))
  rintro _ w1 ⟨rfl, hB2⟩
  replace hb := hb.trans (hB2.mono hs)
  replace hs := Nat.le_trans hs (hB2.size)
  refine L_mv (L_run (.int .u8 0) (by kernel_rfl) (by kernel_rfl) (L_run (.bool false) (by kernel_rfl) (by kernel_rfl) (L_as (L_as (L_nil (thenQ_normal (W_seq (W_region (L_mv (L_not false (by kernel_rfl) (L_mv (L_want (by kernel_rfl) (L_mv (L_want (by kernel_rfl) (L_mv (L_want (by kernel_rfl) (L_call 12 [(.pointer none), (.int .i32 r)] (by kernel_rfl) (by kernel_rfl) (c_tClass0 r _ ) ?_)))))))))))))))))
  rintro _ w4 ⟨rfl, hB5⟩
  replace hb := hb.trans (hB5.mono hs)
  replace hs := Nat.le_trans hs (hB5.size)
  refine L_want (by kernel_rfl) (L_run (.bool true) (by kernel_rfl) (by kernel_rfl) (L_pickT (by kernel_rfl) (L_mv (L_want (by kernel_rfl) (L_mv (L_want (by kernel_rfl) (L_mv (L_want (by kernel_rfl) (L_call 14 [(.pointer none), (.int .i32 r)] (by kernel_rfl) (by kernel_rfl) (c_tLine0 r _ ) ?_)))))))))
  rintro _ w7 ⟨rfl, hB8⟩
  replace hb := hb.trans (hB8.mono hs)
  replace hs := Nat.le_trans hs (hB8.size)
  refine L_want (by kernel_rfl) (L_run (.bool true) (by kernel_rfl) (by kernel_rfl) (L_pickT (by kernel_rfl) (L_mv (L_want (by kernel_rfl) (L_mv (L_want (by kernel_rfl) (L_call 11 [(.pointer none), (.bool false), (.int .i64 (-1))] (by kernel_rfl) (by kernel_rfl) (c_toldN0 (-1) _ ) ?_)))))))
  rintro q10 w11 ⟨_, rfl, r_q10, hB12⟩
  replace r_q10 := r_q10.base hs
  replace hb := hb.trans (hB12.mono hs)
  replace hs := Nat.le_trans hs (hB12.size)
  refine L_want (by kernel_rfl) (L_len 29 34 ((fewC ([] : List SpI) (-1))).length q10 rfl Tryz.underlying29 (r_q10.rd).len (by kernel_rfl) (L_want (by kernel_rfl) (L_cmp .i64 ((((fewC ([] : List SpI) (-1))).length : Nat) : Int) ((0 : Nat) : Int) (((fewC ([] : List SpI) (-1))).length = 0) rfl (cmpN_eq (((fewC ([] : List SpI) (-1))).length) 0) (by kernel_rfl) (by kernel_rfl) ?_ ?_)))
  · intro h14
    replace h14 : ((fewC ([] : List SpI) (-1))).length = 0 := by omega
    refine L_pickT (by kernel_rfl) (L_mv (L_want (by kernel_rfl) (L_mv (L_want (by kernel_rfl) (L_call 11 [(.pointer none), (.bool true), (.int .i64 (-1))] (by kernel_rfl) (by kernel_rfl) (c_toldW0 (-1) _ ) ?_)))))
    rintro q15 w16 ⟨_, rfl, r_q15, hB17⟩
    have ap_r_q15_r_q10 := ap_call r_q15 r_q10; have ap_r_q10_r_q15 := ap_comm ap_r_q15_r_q10
    replace r_q15 := r_q15.base hs
    replace hb := hb.trans (hB17.mono hs)
    replace hs := Nat.le_trans hs (hB17.size)
    replace r_q10 := r_q10.below hB17
    refine L_want (by kernel_rfl) (L_len 29 34 ((fewC ([] : List SpI) (-1))).length q15 rfl Tryz.underlying29 (r_q15.rd).len (by kernel_rfl) (L_want (by kernel_rfl) (L_cmp .i64 ((((fewC ([] : List SpI) (-1))).length : Nat) : Int) ((0 : Nat) : Int) (((fewC ([] : List SpI) (-1))).length = 0) rfl (cmpN_eq (((fewC ([] : List SpI) (-1))).length) 0) (by kernel_rfl) (by kernel_rfl) ?_ ?_)))
    · intro h19
      replace h19 : ((fewC ([] : List SpI) (-1))).length = 0 := by omega
      refine L_pickT (by kernel_rfl) (L_mv (L_want (by kernel_rfl) (L_mv (L_want (by kernel_rfl) (L_call 16 [(.pointer none)] (by kernel_rfl) (by kernel_rfl) (c_tMissing0  _ ) ?_)))))
      rintro q20 w21 ⟨_, rfl, r_q20, hB22⟩
      replace r_q20 := r_q20.base hs
      replace hb := hb.trans (hB22.mono hs)
      replace hs := Nat.le_trans hs (hB22.size)
      replace r_q10 := r_q10.below hB22
      replace r_q15 := r_q15.below hB22
      refine L_want (by kernel_rfl) (L_len 42 45 (([] : List SpI)).length q20 rfl Tryz.underlying42 (r_q20.rd).len (by kernel_rfl) (L_want (by kernel_rfl) (L_run (.bool true) (by kernel_rfl) (by kernel_rfl) (L_pickT (by kernel_rfl) (L_mv (L_want (by kernel_rfl) (L_mv (L_want (by kernel_rfl) (L_call 15 [(.pointer none)] (by kernel_rfl) (by kernel_rfl) (c_tWrite0  _ ) ?_)))))))))
      rintro _ w24 ⟨rfl, hB25⟩
      replace hb := hb.trans (hB25.mono hs)
      replace hs := Nat.le_trans hs (hB25.size)
      replace r_q10 := r_q10.below hB25
      replace r_q15 := r_q15.below hB25
      replace r_q20 := r_q20.below hB25
      refine L_want (by kernel_rfl) (L_seqT ([] : List UInt8) ([] : List UInt8) (by rfl) (by kernel_rfl) (by kernel_rfl) (L_pickT (by kernel_rfl) (L_mv (L_want (by kernel_rfl) (L_call 9 [] (by kernel_rfl) (by kernel_rfl) (c_lives7  _ (gcell_below hml hb)) ?_)))))
      rintro _ w27 ⟨rfl, hB28⟩
      replace hb := hb.trans (hB28.mono hs)
      replace hs := Nat.le_trans hs (hB28.size)
      replace r_q10 := r_q10.below hB28
      replace r_q15 := r_q15.below hB28
      replace r_q20 := r_q20.below hB28
      refine L_pickT (by kernel_rfl) (L_as (L_nil (thenQ_normal (W_ret ?_))))
      refine end_ret [.tmp 2] [(.bool true)] rfl rfl ⟨by kernel_rfl, trivial⟩ ?_
      have e0 : true = true := by rfl
      exact ⟨congrArg Value.bool e0, hb⟩
    · intro h30
      replace h30 : ((fewC ([] : List SpI) (-1))).length ≠ 0 := by omega
      exact absurd h14 h30
  · intro h31
    replace h31 : ((fewC ([] : List SpI) (-1))).length ≠ 0 := by omega
    exfalso; exact h31 rfl

end Go.Proofs.YtkclikfejmeblaaGreatDoor
end
