/- Joined by my program pack.py out of my own texts: Wclaw Wcnot. -/
import Derived.Test.YtkclikfejmeblaaGreatDoorProg
import Derived.Tactics2
import Derived.Test.YtkclikfejmeblaaGreatDoorR2
import Derived.Test.YtkclikfejmeblaaGreatDoorR3
import Derived.Test.YtkclikfejmeblaaGreatDoorR4
import Derived.Test.YtkclikfejmeblaaGreatDoorR5
import Derived.Test.YtkclikfejmeblaaGreatDoorR6
set_option linter.unusedVariables false
set_option linter.unusedSimpArgs false
/- === Wclaw === -/
section
/- Walks, written by my program walk.py out of the specification claw.py: each theorem says what one function returns and that it leaves memory as it was. -/
namespace Go.Proofs.YtkclikfejmeblaaGreatDoor
open Go Go.RowKit Go.FK
set_option maxHeartbeats 4000000
set_option maxRecDepth 100000
set_option linter.unusedVariables false
set_option linter.unusedSimpArgs false
set_option maxRecDepth 100000
theorem lives_tab : clsF ([35, 32, 64, 109, 105, 115, 115, 105, 110, 103, 58, 32, 48, 48, 48, 48, 46, 46, 49, 48, 70, 70, 70, 70, 59, 32, 76, 101, 102, 116, 95, 84, 111, 95, 82, 105, 103, 104, 116, 10, 35, 32, 64, 109, 105, 115, 115, 105, 110, 103, 58, 32, 48, 53, 57, 48, 46, 46, 48, 53, 70, 70, 59, 32, 82, 10, 10, 48, 48, 51, 48, 46, 46, 48, 48, 51, 57, 32, 59, 32, 69, 78, 32, 35, 32, 100, 105, 103, 105, 116, 115, 10, 48, 53, 68, 48, 32, 59, 32, 82, 105, 103, 104, 116, 32, 84, 111, 32, 76, 101, 102, 116, 10] : List UInt8) = (((([(48, 57, 4), (1488, 1488, 2)] : List SpI), ([(48, 57, 4), (1488, 1488, 5)] : List SpI), ([(0, 1114111, 1), (1424, 1535, 2)] : List SpI)) : TabC), 0, 0) := by kernel_rfl
theorem c_lives7 (w : World) {m_ml : Int} (hml : w.cell? ⟨1, 0, none⟩ = some (.int .i64 m_ml)) :
  Calls Tryz.prog 9 #[] w (Ret fun v w' => v = (.bool true) ∧ Below w.heap.size w w') := by
 refine enter (args := []) Tryz.func9 rfl (by kernel_rfl : _ = 45) (by kernel_rfl) ?_
 have hb := Below.refl w.heap.size w
 have hs : w.heap.size ≤ w.heap.size := Nat.le_refl _
 refine zF (zD (zJ (zE (zA (zF (zD (zZ 10 [(S ([102] : List UInt8)), (S ([35, 32, 64, 109, 105, 115, 115, 105, 110, 103, 58, 32, 48, 48, 48, 48, 46, 46, 49, 48, 70, 70, 70, 70, 59, 32, 76, 101, 102, 116, 95, 84, 111, 95, 82, 105, 103, 104, 116, 10, 35, 32, 64, 109, 105, 115, 115, 105, 110, 103, 58, 32, 48, 53, 57, 48, 46, 46, 48, 53, 70, 70, 59, 32, 82, 10, 10, 48, 48, 51, 48, 46, 46, 48, 48, 51, 57, 32, 59, 32, 69, 78, 32, 35, 32, 100, 105, 103, 105, 116, 115, 10, 48, 53, 68, 48, 32, 59, 32, 82, 105, 103, 104, 116, 32, 84, 111, 32, 76, 101, 102, 116, 10] : List UInt8))] (by kernel_rfl) (by kernel_rfl) (c_classes_Read_ok ([102] : List UInt8) ([35, 32, 64, 109, 105, 115, 115, 105, 110, 103, 58, 32, 48, 48, 48, 48, 46, 46, 49, 48, 70, 70, 70, 70, 59, 32, 76, 101, 102, 116, 95, 84, 111, 95, 82, 105, 103, 104, 116, 10, 35, 32, 64, 109, 105, 115, 115, 105, 110, 103, 58, 32, 48, 53, 57, 48, 46, 46, 48, 53, 70, 70, 59, 32, 82, 10, 10, 48, 48, 51, 48, 46, 46, 48, 48, 51, 57, 32, 59, 32, 69, 78, 32, 35, 32, 100, 105, 103, 105, 116, 115, 10, 48, 53, 68, 48, 32, 59, 32, 82, 105, 103, 104, 116, 32, 84, 111, 32, 76, 101, 102, 116, 10] : List UInt8) _ (gcell_below hml hb) (by decide) (by first | kernel_rfl | assumption)) ?_)))))))
 rintro _ w5 ⟨q1, q2, q3, q4, cb8, cb9, cb10, cb11, rfl, r_q1, r_q2, r_q3, r_q4, o_cb8, g_cb8, o_cb9, g_cb9, o_cb10, g_cb10, o_cb11, g_cb11, ne_cb8_cb9, ne_cb8_cb10, ne_cb8_cb11, ne_cb9_cb10, ne_cb9_cb11, ne_cb10_cb11, hB6⟩
 replace g_cb8 := Nat.le_trans hs g_cb8
 replace g_cb9 := Nat.le_trans hs g_cb9
 replace g_cb10 := Nat.le_trans hs g_cb10
 replace g_cb11 := Nat.le_trans hs g_cb11
 replace r_q2 := r_q2.base hs
 replace r_q3 := r_q3.base hs
 replace r_q4 := r_q4.base hs
 replace hb := hb.trans (hB6.mono hs)
 replace hs := Nat.le_trans hs (hB6.size)
 refine zH (zP (.pointer (some ⟨cb8, 0, none⟩)) (by kernel_rfl) (by kernel_rfl) (zP .nilIface (by kernel_rfl) (by kernel_rfl) (zJ (zJ (zE (zA (zF (zF (zD (zH (zP (.bool false) (by kernel_rfl) (by kernel_rfl) (zH (zS (by kernel_rfl) (zH (zS (by kernel_rfl) (zP (.bool false) (by kernel_rfl) (by kernel_rfl) (yM (by kernel_rfl) (zE (zA (zN (by kernel_rfl) (zW (zA (zF (zD (zH (zZ 13 [(.pointer (some ⟨cb8, 0, none⟩)), (.int .i32 49)] (by kernel_rfl) (by kernel_rfl) (c_tGiven cb8 cb9 cb10 q1 cb11 49 q2 ((clsF ([35, 32, 64, 109, 105, 115, 115, 105, 110, 103, 58, 32, 48, 48, 48, 48, 46, 46, 49, 48, 70, 70, 70, 70, 59, 32, 76, 101, 102, 116, 95, 84, 111, 95, 82, 105, 103, 104, 116, 10, 35, 32, 64, 109, 105, 115, 115, 105, 110, 103, 58, 32, 48, 53, 57, 48, 46, 46, 48, 53, 70, 70, 59, 32, 82, 10, 10, 48, 48, 51, 48, 46, 46, 48, 48, 51, 57, 32, 59, 32, 69, 78, 32, 35, 32, 100, 105, 103, 105, 116, 115, 10, 48, 53, 68, 48, 32, 59, 32, 82, 105, 103, 104, 116, 32, 84, 111, 32, 76, 101, 102, 116, 10] : List UInt8)).1.1) _ o_cb8 o_cb9 r_q2.rd (by exact (cls_ok _).1.rise)) ?_))))))))))))))))))))))))))
 rintro _ w12 ⟨rfl, hB13⟩
 replace hb := hb.trans (hB13.mono hs)
 replace hs := Nat.le_trans hs (hB13.size)
 replace o_cb8 := zB o_cb8 hB13
 replace o_cb10 := zB o_cb10 hB13
 replace o_cb11 := zB o_cb11 hB13
 replace r_q3 := r_q3.below hB13
 replace r_q4 := r_q4.below hB13
 refine zH (zP (.int .u8 ((atM 0 ((clsF ([35, 32, 64, 109, 105, 115, 115, 105, 110, 103, 58, 32, 48, 48, 48, 48, 46, 46, 49, 48, 70, 70, 70, 70, 59, 32, 76, 101, 102, 116, 95, 84, 111, 95, 82, 105, 103, 104, 116, 10, 35, 32, 64, 109, 105, 115, 115, 105, 110, 103, 58, 32, 48, 53, 57, 48, 46, 46, 48, 53, 70, 70, 59, 32, 82, 10, 10, 48, 48, 51, 48, 46, 46, 48, 48, 51, 57, 32, 59, 32, 69, 78, 32, 35, 32, 100, 105, 103, 105, 116, 115, 10, 48, 53, 68, 48, 32, 59, 32, 82, 105, 103, 104, 116, 32, 84, 111, 32, 76, 101, 102, 116, 10] : List UInt8)).1.1) (plainF 49)).1)) (by kernel_rfl) (by kernel_rfl) (zP (.bool ((atM 0 ((clsF ([35, 32, 64, 109, 105, 115, 115, 105, 110, 103, 58, 32, 48, 48, 48, 48, 46, 46, 49, 48, 70, 70, 70, 70, 59, 32, 76, 101, 102, 116, 95, 84, 111, 95, 82, 105, 103, 104, 116, 10, 35, 32, 64, 109, 105, 115, 115, 105, 110, 103, 58, 32, 48, 53, 57, 48, 46, 46, 48, 53, 70, 70, 59, 32, 82, 10, 10, 48, 48, 51, 48, 46, 46, 48, 48, 51, 57, 32, 59, 32, 69, 78, 32, 35, 32, 100, 105, 103, 105, 116, 115, 10, 48, 53, 68, 48, 32, 59, 32, 82, 105, 103, 104, 116, 32, 84, 111, 32, 76, 101, 102, 116, 10] : List UInt8)).1.1) (plainF 49)).2)) (by kernel_rfl) (by kernel_rfl) (xJ ((atM 0 ((clsF ([35, 32, 64, 109, 105, 115, 115, 105, 110, 103, 58, 32, 48, 48, 48, 48, 46, 46, 49, 48, 70, 70, 70, 70, 59, 32, 76, 101, 102, 116, 95, 84, 111, 95, 82, 105, 103, 104, 116, 10, 35, 32, 64, 109, 105, 115, 115, 105, 110, 103, 58, 32, 48, 53, 57, 48, 46, 46, 48, 53, 70, 70, 59, 32, 82, 10, 10, 48, 48, 51, 48, 46, 46, 48, 48, 51, 57, 32, 59, 32, 69, 78, 32, 35, 32, 100, 105, 103, 105, 116, 115, 10, 48, 53, 68, 48, 32, 59, 32, 82, 105, 103, 104, 116, 32, 84, 111, 32, 76, 101, 102, 116, 10] : List UInt8)).1.1) (plainF 49)).2) ?_ ?_)))
 ·intro h15
  refine zJ (zJ (zE (zA (zF (zD (zH (zZ 12 [(.pointer (some ⟨cb8, 0, none⟩)), (.int .i32 49)] (by kernel_rfl) (by kernel_rfl) (c_tClass cb8 cb9 cb10 q1 cb11 49 q4 (wholeF (clsF ([35, 32, 64, 109, 105, 115, 115, 105, 110, 103, 58, 32, 48, 48, 48, 48, 46, 46, 49, 48, 70, 70, 70, 70, 59, 32, 76, 101, 102, 116, 95, 84, 111, 95, 82, 105, 103, 104, 116, 10, 35, 32, 64, 109, 105, 115, 115, 105, 110, 103, 58, 32, 48, 53, 57, 48, 46, 46, 48, 53, 70, 70, 59, 32, 82, 10, 10, 48, 48, 51, 48, 46, 46, 48, 48, 51, 57, 32, 59, 32, 69, 78, 32, 35, 32, 100, 105, 103, 105, 116, 115, 10, 48, 53, 68, 48, 32, 59, 32, 82, 105, 103, 104, 116, 32, 84, 111, 32, 76, 101, 102, 116, 10] : List UInt8)).1) _ o_cb8 o_cb11 r_q4.rd (by exact (whole_ok _).rise)) ?_)))))))
  rintro _ w16 ⟨rfl, hB17⟩
  replace hb := hb.trans (hB17.mono hs)
  replace hs := Nat.le_trans hs (hB17.size)
  replace o_cb8 := zB o_cb8 hB17
  replace o_cb10 := zB o_cb10 hB17
  replace o_cb11 := zB o_cb11 hB17
  replace r_q3 := r_q3.below hB17
  replace r_q4 := r_q4.below hB17
  refine yD .u8 ((atM 0 (wholeF (clsF ([35, 32, 64, 109, 105, 115, 115, 105, 110, 103, 58, 32, 48, 48, 48, 48, 46, 46, 49, 48, 70, 70, 70, 70, 59, 32, 76, 101, 102, 116, 95, 84, 111, 95, 82, 105, 103, 104, 116, 10, 35, 32, 64, 109, 105, 115, 115, 105, 110, 103, 58, 32, 48, 53, 57, 48, 46, 46, 48, 53, 70, 70, 59, 32, 82, 10, 10, 48, 48, 51, 48, 46, 46, 48, 48, 51, 57, 32, 59, 32, 69, 78, 32, 35, 32, 100, 105, 103, 105, 116, 115, 10, 48, 53, 68, 48, 32, 59, 32, 82, 105, 103, 104, 116, 32, 84, 111, 32, 76, 101, 102, 116, 10] : List UInt8)).1) (plainF 49)).1) 4 ((atM 0 (wholeF (clsF ([35, 32, 64, 109, 105, 115, 115, 105, 110, 103, 58, 32, 48, 48, 48, 48, 46, 46, 49, 48, 70, 70, 70, 70, 59, 32, 76, 101, 102, 116, 95, 84, 111, 95, 82, 105, 103, 104, 116, 10, 35, 32, 64, 109, 105, 115, 115, 105, 110, 103, 58, 32, 48, 53, 57, 48, 46, 46, 48, 53, 70, 70, 59, 32, 82, 10, 10, 48, 48, 51, 48, 46, 46, 48, 48, 51, 57, 32, 59, 32, 69, 78, 32, 35, 32, 100, 105, 103, 105, 116, 115, 10, 48, 53, 68, 48, 32, 59, 32, 82, 105, 103, 104, 116, 32, 84, 111, 32, 76, 101, 102, 116, 10] : List UInt8)).1) (plainF 49)).1 = 4) rfl (yO ((atM 0 (wholeF (clsF ([35, 32, 64, 109, 105, 115, 115, 105, 110, 103, 58, 32, 48, 48, 48, 48, 46, 46, 49, 48, 70, 70, 70, 70, 59, 32, 76, 101, 102, 116, 95, 84, 111, 95, 82, 105, 103, 104, 116, 10, 35, 32, 64, 109, 105, 115, 115, 105, 110, 103, 58, 32, 48, 53, 57, 48, 46, 46, 48, 53, 70, 70, 59, 32, 82, 10, 10, 48, 48, 51, 48, 46, 46, 48, 48, 51, 57, 32, 59, 32, 69, 78, 32, 35, 32, 100, 105, 103, 105, 116, 115, 10, 48, 53, 68, 48, 32, 59, 32, 82, 105, 103, 104, 116, 32, 84, 111, 32, 76, 101, 102, 116, 10] : List UInt8)).1) (plainF 49)).1) 4) (by kernel_rfl) (by kernel_rfl) ?_ ?_
  ·intro h19
   replace h19 : (atM 0 (wholeF (clsF ([35, 32, 64, 109, 105, 115, 115, 105, 110, 103, 58, 32, 48, 48, 48, 48, 46, 46, 49, 48, 70, 70, 70, 70, 59, 32, 76, 101, 102, 116, 95, 84, 111, 95, 82, 105, 103, 104, 116, 10, 35, 32, 64, 109, 105, 115, 115, 105, 110, 103, 58, 32, 48, 53, 57, 48, 46, 46, 48, 53, 70, 70, 59, 32, 82, 10, 10, 48, 48, 51, 48, 46, 46, 48, 48, 51, 57, 32, 59, 32, 69, 78, 32, 35, 32, 100, 105, 103, 105, 116, 115, 10, 48, 53, 68, 48, 32, 59, 32, 82, 105, 103, 104, 116, 32, 84, 111, 32, 76, 101, 102, 116, 10] : List UInt8)).1) (plainF 49)).1 = 4 := by omega
   refine zH (zS (by kernel_rfl) (zH (zS (by kernel_rfl) (zZ 12 [(.pointer (some ⟨cb8, 0, none⟩)), (.int .i32 1425)] (by kernel_rfl) (by kernel_rfl) (c_tClass cb8 cb9 cb10 q1 cb11 1425 q4 (wholeF (clsF ([35, 32, 64, 109, 105, 115, 115, 105, 110, 103, 58, 32, 48, 48, 48, 48, 46, 46, 49, 48, 70, 70, 70, 70, 59, 32, 76, 101, 102, 116, 95, 84, 111, 95, 82, 105, 103, 104, 116, 10, 35, 32, 64, 109, 105, 115, 115, 105, 110, 103, 58, 32, 48, 53, 57, 48, 46, 46, 48, 53, 70, 70, 59, 32, 82, 10, 10, 48, 48, 51, 48, 46, 46, 48, 48, 51, 57, 32, 59, 32, 69, 78, 32, 35, 32, 100, 105, 103, 105, 116, 115, 10, 48, 53, 68, 48, 32, 59, 32, 82, 105, 103, 104, 116, 32, 84, 111, 32, 76, 101, 102, 116, 10] : List UInt8)).1) _ o_cb8 o_cb11 r_q4.rd (by exact (whole_ok _).rise)) ?_))))
   rintro _ w20 ⟨rfl, hB21⟩
   replace hb := hb.trans (hB21.mono hs)
   replace hs := Nat.le_trans hs (hB21.size)
   replace o_cb8 := zB o_cb8 hB21
   replace o_cb10 := zB o_cb10 hB21
   replace o_cb11 := zB o_cb11 hB21
   replace r_q3 := r_q3.below hB21
   replace r_q4 := r_q4.below hB21
   refine zS (by kernel_rfl) (yD .u8 ((atM 0 (wholeF (clsF ([35, 32, 64, 109, 105, 115, 115, 105, 110, 103, 58, 32, 48, 48, 48, 48, 46, 46, 49, 48, 70, 70, 70, 70, 59, 32, 76, 101, 102, 116, 95, 84, 111, 95, 82, 105, 103, 104, 116, 10, 35, 32, 64, 109, 105, 115, 115, 105, 110, 103, 58, 32, 48, 53, 57, 48, 46, 46, 48, 53, 70, 70, 59, 32, 82, 10, 10, 48, 48, 51, 48, 46, 46, 48, 48, 51, 57, 32, 59, 32, 69, 78, 32, 35, 32, 100, 105, 103, 105, 116, 115, 10, 48, 53, 68, 48, 32, 59, 32, 82, 105, 103, 104, 116, 32, 84, 111, 32, 76, 101, 102, 116, 10] : List UInt8)).1) (plainF 1425)).1) 2 ((atM 0 (wholeF (clsF ([35, 32, 64, 109, 105, 115, 115, 105, 110, 103, 58, 32, 48, 48, 48, 48, 46, 46, 49, 48, 70, 70, 70, 70, 59, 32, 76, 101, 102, 116, 95, 84, 111, 95, 82, 105, 103, 104, 116, 10, 35, 32, 64, 109, 105, 115, 115, 105, 110, 103, 58, 32, 48, 53, 57, 48, 46, 46, 48, 53, 70, 70, 59, 32, 82, 10, 10, 48, 48, 51, 48, 46, 46, 48, 48, 51, 57, 32, 59, 32, 69, 78, 32, 35, 32, 100, 105, 103, 105, 116, 115, 10, 48, 53, 68, 48, 32, 59, 32, 82, 105, 103, 104, 116, 32, 84, 111, 32, 76, 101, 102, 116, 10] : List UInt8)).1) (plainF 1425)).1 = 2) rfl (yO ((atM 0 (wholeF (clsF ([35, 32, 64, 109, 105, 115, 115, 105, 110, 103, 58, 32, 48, 48, 48, 48, 46, 46, 49, 48, 70, 70, 70, 70, 59, 32, 76, 101, 102, 116, 95, 84, 111, 95, 82, 105, 103, 104, 116, 10, 35, 32, 64, 109, 105, 115, 115, 105, 110, 103, 58, 32, 48, 53, 57, 48, 46, 46, 48, 53, 70, 70, 59, 32, 82, 10, 10, 48, 48, 51, 48, 46, 46, 48, 48, 51, 57, 32, 59, 32, 69, 78, 32, 35, 32, 100, 105, 103, 105, 116, 115, 10, 48, 53, 68, 48, 32, 59, 32, 82, 105, 103, 104, 116, 32, 84, 111, 32, 76, 101, 102, 116, 10] : List UInt8)).1) (plainF 1425)).1) 2) (by kernel_rfl) (by kernel_rfl) ?_ ?_)
   ·intro h23
    replace h23 : (atM 0 (wholeF (clsF ([35, 32, 64, 109, 105, 115, 115, 105, 110, 103, 58, 32, 48, 48, 48, 48, 46, 46, 49, 48, 70, 70, 70, 70, 59, 32, 76, 101, 102, 116, 95, 84, 111, 95, 82, 105, 103, 104, 116, 10, 35, 32, 64, 109, 105, 115, 115, 105, 110, 103, 58, 32, 48, 53, 57, 48, 46, 46, 48, 53, 70, 70, 59, 32, 82, 10, 10, 48, 48, 51, 48, 46, 46, 48, 48, 51, 57, 32, 59, 32, 69, 78, 32, 35, 32, 100, 105, 103, 105, 116, 115, 10, 48, 53, 68, 48, 32, 59, 32, 82, 105, 103, 104, 116, 32, 84, 111, 32, 76, 101, 102, 116, 10] : List UInt8)).1) (plainF 1425)).1 = 2 := by omega
    refine yJ (by kernel_rfl) (zH (zS (by kernel_rfl) (zH (zS (by kernel_rfl) (zZ 12 [(.pointer (some ⟨cb8, 0, none⟩)), (.int .i32 1536)] (by kernel_rfl) (by kernel_rfl) (c_tClass cb8 cb9 cb10 q1 cb11 1536 q4 (wholeF (clsF ([35, 32, 64, 109, 105, 115, 115, 105, 110, 103, 58, 32, 48, 48, 48, 48, 46, 46, 49, 48, 70, 70, 70, 70, 59, 32, 76, 101, 102, 116, 95, 84, 111, 95, 82, 105, 103, 104, 116, 10, 35, 32, 64, 109, 105, 115, 115, 105, 110, 103, 58, 32, 48, 53, 57, 48, 46, 46, 48, 53, 70, 70, 59, 32, 82, 10, 10, 48, 48, 51, 48, 46, 46, 48, 48, 51, 57, 32, 59, 32, 69, 78, 32, 35, 32, 100, 105, 103, 105, 116, 115, 10, 48, 53, 68, 48, 32, 59, 32, 82, 105, 103, 104, 116, 32, 84, 111, 32, 76, 101, 102, 116, 10] : List UInt8)).1) _ o_cb8 o_cb11 r_q4.rd (by exact (whole_ok _).rise)) ?_)))))
    rintro _ w24 ⟨rfl, hB25⟩
    replace hb := hb.trans (hB25.mono hs)
    replace hs := Nat.le_trans hs (hB25.size)
    replace o_cb8 := zB o_cb8 hB25
    replace o_cb10 := zB o_cb10 hB25
    replace r_q3 := r_q3.below hB25
    refine zS (by kernel_rfl) (yD .u8 ((atM 0 (wholeF (clsF ([35, 32, 64, 109, 105, 115, 115, 105, 110, 103, 58, 32, 48, 48, 48, 48, 46, 46, 49, 48, 70, 70, 70, 70, 59, 32, 76, 101, 102, 116, 95, 84, 111, 95, 82, 105, 103, 104, 116, 10, 35, 32, 64, 109, 105, 115, 115, 105, 110, 103, 58, 32, 48, 53, 57, 48, 46, 46, 48, 53, 70, 70, 59, 32, 82, 10, 10, 48, 48, 51, 48, 46, 46, 48, 48, 51, 57, 32, 59, 32, 69, 78, 32, 35, 32, 100, 105, 103, 105, 116, 115, 10, 48, 53, 68, 48, 32, 59, 32, 82, 105, 103, 104, 116, 32, 84, 111, 32, 76, 101, 102, 116, 10] : List UInt8)).1) (plainF 1536)).1) 1 ((atM 0 (wholeF (clsF ([35, 32, 64, 109, 105, 115, 115, 105, 110, 103, 58, 32, 48, 48, 48, 48, 46, 46, 49, 48, 70, 70, 70, 70, 59, 32, 76, 101, 102, 116, 95, 84, 111, 95, 82, 105, 103, 104, 116, 10, 35, 32, 64, 109, 105, 115, 115, 105, 110, 103, 58, 32, 48, 53, 57, 48, 46, 46, 48, 53, 70, 70, 59, 32, 82, 10, 10, 48, 48, 51, 48, 46, 46, 48, 48, 51, 57, 32, 59, 32, 69, 78, 32, 35, 32, 100, 105, 103, 105, 116, 115, 10, 48, 53, 68, 48, 32, 59, 32, 82, 105, 103, 104, 116, 32, 84, 111, 32, 76, 101, 102, 116, 10] : List UInt8)).1) (plainF 1536)).1 = 1) rfl (yO ((atM 0 (wholeF (clsF ([35, 32, 64, 109, 105, 115, 115, 105, 110, 103, 58, 32, 48, 48, 48, 48, 46, 46, 49, 48, 70, 70, 70, 70, 59, 32, 76, 101, 102, 116, 95, 84, 111, 95, 82, 105, 103, 104, 116, 10, 35, 32, 64, 109, 105, 115, 115, 105, 110, 103, 58, 32, 48, 53, 57, 48, 46, 46, 48, 53, 70, 70, 59, 32, 82, 10, 10, 48, 48, 51, 48, 46, 46, 48, 48, 51, 57, 32, 59, 32, 69, 78, 32, 35, 32, 100, 105, 103, 105, 116, 115, 10, 48, 53, 68, 48, 32, 59, 32, 82, 105, 103, 104, 116, 32, 84, 111, 32, 76, 101, 102, 116, 10] : List UInt8)).1) (plainF 1536)).1) 1) (by kernel_rfl) (by kernel_rfl) ?_ ?_)
    ·intro h27
     replace h27 : (atM 0 (wholeF (clsF ([35, 32, 64, 109, 105, 115, 115, 105, 110, 103, 58, 32, 48, 48, 48, 48, 46, 46, 49, 48, 70, 70, 70, 70, 59, 32, 76, 101, 102, 116, 95, 84, 111, 95, 82, 105, 103, 104, 116, 10, 35, 32, 64, 109, 105, 115, 115, 105, 110, 103, 58, 32, 48, 53, 57, 48, 46, 46, 48, 53, 70, 70, 59, 32, 82, 10, 10, 48, 48, 51, 48, 46, 46, 48, 48, 51, 57, 32, 59, 32, 69, 78, 32, 35, 32, 100, 105, 103, 105, 116, 115, 10, 48, 53, 68, 48, 32, 59, 32, 82, 105, 103, 104, 116, 32, 84, 111, 32, 76, 101, 102, 116, 10] : List UInt8)).1) (plainF 1536)).1 = 1 := by omega
     refine yJ (by kernel_rfl) (zH (zS (by kernel_rfl) (zH (zS (by kernel_rfl) (yD .u8 ((atM 0 ((clsF ([35, 32, 64, 109, 105, 115, 115, 105, 110, 103, 58, 32, 48, 48, 48, 48, 46, 46, 49, 48, 70, 70, 70, 70, 59, 32, 76, 101, 102, 116, 95, 84, 111, 95, 82, 105, 103, 104, 116, 10, 35, 32, 64, 109, 105, 115, 115, 105, 110, 103, 58, 32, 48, 53, 57, 48, 46, 46, 48, 53, 70, 70, 59, 32, 82, 10, 10, 48, 48, 51, 48, 46, 46, 48, 48, 51, 57, 32, 59, 32, 69, 78, 32, 35, 32, 100, 105, 103, 105, 116, 115, 10, 48, 53, 68, 48, 32, 59, 32, 82, 105, 103, 104, 116, 32, 84, 111, 32, 76, 101, 102, 116, 10] : List UInt8)).1.1) (plainF 49)).1) 4 ((atM 0 ((clsF ([35, 32, 64, 109, 105, 115, 115, 105, 110, 103, 58, 32, 48, 48, 48, 48, 46, 46, 49, 48, 70, 70, 70, 70, 59, 32, 76, 101, 102, 116, 95, 84, 111, 95, 82, 105, 103, 104, 116, 10, 35, 32, 64, 109, 105, 115, 115, 105, 110, 103, 58, 32, 48, 53, 57, 48, 46, 46, 48, 53, 70, 70, 59, 32, 82, 10, 10, 48, 48, 51, 48, 46, 46, 48, 48, 51, 57, 32, 59, 32, 69, 78, 32, 35, 32, 100, 105, 103, 105, 116, 115, 10, 48, 53, 68, 48, 32, 59, 32, 82, 105, 103, 104, 116, 32, 84, 111, 32, 76, 101, 102, 116, 10] : List UInt8)).1.1) (plainF 49)).1 = 4) rfl (yO ((atM 0 ((clsF ([35, 32, 64, 109, 105, 115, 115, 105, 110, 103, 58, 32, 48, 48, 48, 48, 46, 46, 49, 48, 70, 70, 70, 70, 59, 32, 76, 101, 102, 116, 95, 84, 111, 95, 82, 105, 103, 104, 116, 10, 35, 32, 64, 109, 105, 115, 115, 105, 110, 103, 58, 32, 48, 53, 57, 48, 46, 46, 48, 53, 70, 70, 59, 32, 82, 10, 10, 48, 48, 51, 48, 46, 46, 48, 48, 51, 57, 32, 59, 32, 69, 78, 32, 35, 32, 100, 105, 103, 105, 116, 115, 10, 48, 53, 68, 48, 32, 59, 32, 82, 105, 103, 104, 116, 32, 84, 111, 32, 76, 101, 102, 116, 10] : List UInt8)).1.1) (plainF 49)).1) 4) (by kernel_rfl) (by kernel_rfl) ?_ ?_)))))
     ·intro h28
      replace h28 : (atM 0 ((clsF ([35, 32, 64, 109, 105, 115, 115, 105, 110, 103, 58, 32, 48, 48, 48, 48, 46, 46, 49, 48, 70, 70, 70, 70, 59, 32, 76, 101, 102, 116, 95, 84, 111, 95, 82, 105, 103, 104, 116, 10, 35, 32, 64, 109, 105, 115, 115, 105, 110, 103, 58, 32, 48, 53, 57, 48, 46, 46, 48, 53, 70, 70, 59, 32, 82, 10, 10, 48, 48, 51, 48, 46, 46, 48, 48, 51, 57, 32, 59, 32, 69, 78, 32, 35, 32, 100, 105, 103, 105, 116, 115, 10, 48, 53, 68, 48, 32, 59, 32, 82, 105, 103, 104, 116, 32, 84, 111, 32, 76, 101, 102, 116, 10] : List UInt8)).1.1) (plainF 49)).1 = 4 := by omega
      refine yJ (by kernel_rfl) (zH (zS (by kernel_rfl) (zH (yJ (by kernel_rfl) (zH (zS (by kernel_rfl) (zH (zS (by kernel_rfl) (zZ 14 [(.pointer (some ⟨cb8, 0, none⟩)), (.int .i32 1488)] (by kernel_rfl) (by kernel_rfl) (c_tLine cb8 cb9 cb10 q1 cb11 1488 q3 ((clsF ([35, 32, 64, 109, 105, 115, 115, 105, 110, 103, 58, 32, 48, 48, 48, 48, 46, 46, 49, 48, 70, 70, 70, 70, 59, 32, 76, 101, 102, 116, 95, 84, 111, 95, 82, 105, 103, 104, 116, 10, 35, 32, 64, 109, 105, 115, 115, 105, 110, 103, 58, 32, 48, 53, 57, 48, 46, 46, 48, 53, 70, 70, 59, 32, 82, 10, 10, 48, 48, 51, 48, 46, 46, 48, 48, 51, 57, 32, 59, 32, 69, 78, 32, 35, 32, 100, 105, 103, 105, 116, 115, 10, 48, 53, 68, 48, 32, 59, 32, 82, 105, 103, 104, 116, 32, 84, 111, 32, 76, 101, 102, 116, 10] : List UInt8)).1.2.1) _ o_cb8 o_cb10 r_q3.rd (by exact (cls_ok _).2.1.rise)) ?_)))))))))
      rintro _ w29 ⟨rfl, hB30⟩
      replace hb := hb.trans (hB30.mono hs)
      replace hs := Nat.le_trans hs (hB30.size)
      refine zS (by kernel_rfl) (yD .i64 ((atM 0 ((clsF ([35, 32, 64, 109, 105, 115, 115, 105, 110, 103, 58, 32, 48, 48, 48, 48, 46, 46, 49, 48, 70, 70, 70, 70, 59, 32, 76, 101, 102, 116, 95, 84, 111, 95, 82, 105, 103, 104, 116, 10, 35, 32, 64, 109, 105, 115, 115, 105, 110, 103, 58, 32, 48, 53, 57, 48, 46, 46, 48, 53, 70, 70, 59, 32, 82, 10, 10, 48, 48, 51, 48, 46, 46, 48, 48, 51, 57, 32, 59, 32, 69, 78, 32, 35, 32, 100, 105, 103, 105, 116, 115, 10, 48, 53, 68, 48, 32, 59, 32, 82, 105, 103, 104, 116, 32, 84, 111, 32, 76, 101, 102, 116, 10] : List UInt8)).1.2.1) (plainF 1488)).1) 5 ((atM 0 ((clsF ([35, 32, 64, 109, 105, 115, 115, 105, 110, 103, 58, 32, 48, 48, 48, 48, 46, 46, 49, 48, 70, 70, 70, 70, 59, 32, 76, 101, 102, 116, 95, 84, 111, 95, 82, 105, 103, 104, 116, 10, 35, 32, 64, 109, 105, 115, 115, 105, 110, 103, 58, 32, 48, 53, 57, 48, 46, 46, 48, 53, 70, 70, 59, 32, 82, 10, 10, 48, 48, 51, 48, 46, 46, 48, 48, 51, 57, 32, 59, 32, 69, 78, 32, 35, 32, 100, 105, 103, 105, 116, 115, 10, 48, 53, 68, 48, 32, 59, 32, 82, 105, 103, 104, 116, 32, 84, 111, 32, 76, 101, 102, 116, 10] : List UInt8)).1.2.1) (plainF 1488)).1 = 5) rfl (yO ((atM 0 ((clsF ([35, 32, 64, 109, 105, 115, 115, 105, 110, 103, 58, 32, 48, 48, 48, 48, 46, 46, 49, 48, 70, 70, 70, 70, 59, 32, 76, 101, 102, 116, 95, 84, 111, 95, 82, 105, 103, 104, 116, 10, 35, 32, 64, 109, 105, 115, 115, 105, 110, 103, 58, 32, 48, 53, 57, 48, 46, 46, 48, 53, 70, 70, 59, 32, 82, 10, 10, 48, 48, 51, 48, 46, 46, 48, 48, 51, 57, 32, 59, 32, 69, 78, 32, 35, 32, 100, 105, 103, 105, 116, 115, 10, 48, 53, 68, 48, 32, 59, 32, 82, 105, 103, 104, 116, 32, 84, 111, 32, 76, 101, 102, 116, 10] : List UInt8)).1.2.1) (plainF 1488)).1) 5) (by kernel_rfl) (by kernel_rfl) ?_ ?_)
      ·intro h32
       replace h32 : (atM 0 ((clsF ([35, 32, 64, 109, 105, 115, 115, 105, 110, 103, 58, 32, 48, 48, 48, 48, 46, 46, 49, 48, 70, 70, 70, 70, 59, 32, 76, 101, 102, 116, 95, 84, 111, 95, 82, 105, 103, 104, 116, 10, 35, 32, 64, 109, 105, 115, 115, 105, 110, 103, 58, 32, 48, 53, 57, 48, 46, 46, 48, 53, 70, 70, 59, 32, 82, 10, 10, 48, 48, 51, 48, 46, 46, 48, 48, 51, 57, 32, 59, 32, 69, 78, 32, 35, 32, 100, 105, 103, 105, 116, 115, 10, 48, 53, 68, 48, 32, 59, 32, 82, 105, 103, 104, 116, 32, 84, 111, 32, 76, 101, 102, 116, 10] : List UInt8)).1.2.1) (plainF 1488)).1 = 5 := by omega
       refine yJ (by kernel_rfl) (zJ (zE (zA (zY ?_))))
       refine zO [.tmp 0] [(.bool true)] rfl rfl ⟨by kernel_rfl, trivial⟩ ?_
       have e0 : true = true := by first | rfl | (rw [lives_tab]; kernel_rfl)
       exact ⟨congrArg Value.bool e0, hb⟩
      ·intro h33
       replace h33 : (atM 0 ((clsF ([35, 32, 64, 109, 105, 115, 115, 105, 110, 103, 58, 32, 48, 48, 48, 48, 46, 46, 49, 48, 70, 70, 70, 70, 59, 32, 76, 101, 102, 116, 95, 84, 111, 95, 82, 105, 103, 104, 116, 10, 35, 32, 64, 109, 105, 115, 115, 105, 110, 103, 58, 32, 48, 53, 57, 48, 46, 46, 48, 53, 70, 70, 59, 32, 82, 10, 10, 48, 48, 51, 48, 46, 46, 48, 48, 51, 57, 32, 59, 32, 69, 78, 32, 35, 32, 100, 105, 103, 105, 116, 115, 10, 48, 53, 68, 48, 32, 59, 32, 82, 105, 103, 104, 116, 32, 84, 111, 32, 76, 101, 102, 116, 10] : List UInt8)).1.2.1) (plainF 1488)).1 ≠ 5 := by omega
       exfalso; exact h33 (by rw [lives_tab]; kernel_rfl)
     ·intro h34
      replace h34 : (atM 0 ((clsF ([35, 32, 64, 109, 105, 115, 115, 105, 110, 103, 58, 32, 48, 48, 48, 48, 46, 46, 49, 48, 70, 70, 70, 70, 59, 32, 76, 101, 102, 116, 95, 84, 111, 95, 82, 105, 103, 104, 116, 10, 35, 32, 64, 109, 105, 115, 115, 105, 110, 103, 58, 32, 48, 53, 57, 48, 46, 46, 48, 53, 70, 70, 59, 32, 82, 10, 10, 48, 48, 51, 48, 46, 46, 48, 48, 51, 57, 32, 59, 32, 69, 78, 32, 35, 32, 100, 105, 103, 105, 116, 115, 10, 48, 53, 68, 48, 32, 59, 32, 82, 105, 103, 104, 116, 32, 84, 111, 32, 76, 101, 102, 116, 10] : List UInt8)).1.1) (plainF 49)).1 ≠ 4 := by omega
      exfalso; exact h34 (by rw [lives_tab]; kernel_rfl)
    ·intro h35
     replace h35 : (atM 0 (wholeF (clsF ([35, 32, 64, 109, 105, 115, 115, 105, 110, 103, 58, 32, 48, 48, 48, 48, 46, 46, 49, 48, 70, 70, 70, 70, 59, 32, 76, 101, 102, 116, 95, 84, 111, 95, 82, 105, 103, 104, 116, 10, 35, 32, 64, 109, 105, 115, 115, 105, 110, 103, 58, 32, 48, 53, 57, 48, 46, 46, 48, 53, 70, 70, 59, 32, 82, 10, 10, 48, 48, 51, 48, 46, 46, 48, 48, 51, 57, 32, 59, 32, 69, 78, 32, 35, 32, 100, 105, 103, 105, 116, 115, 10, 48, 53, 68, 48, 32, 59, 32, 82, 105, 103, 104, 116, 32, 84, 111, 32, 76, 101, 102, 116, 10] : List UInt8)).1) (plainF 1536)).1 ≠ 1 := by omega
     exfalso; exact h35 (by rw [lives_tab]; kernel_rfl)
   ·intro h36
    replace h36 : (atM 0 (wholeF (clsF ([35, 32, 64, 109, 105, 115, 115, 105, 110, 103, 58, 32, 48, 48, 48, 48, 46, 46, 49, 48, 70, 70, 70, 70, 59, 32, 76, 101, 102, 116, 95, 84, 111, 95, 82, 105, 103, 104, 116, 10, 35, 32, 64, 109, 105, 115, 115, 105, 110, 103, 58, 32, 48, 53, 57, 48, 46, 46, 48, 53, 70, 70, 59, 32, 82, 10, 10, 48, 48, 51, 48, 46, 46, 48, 48, 51, 57, 32, 59, 32, 69, 78, 32, 35, 32, 100, 105, 103, 105, 116, 115, 10, 48, 53, 68, 48, 32, 59, 32, 82, 105, 103, 104, 116, 32, 84, 111, 32, 76, 101, 102, 116, 10] : List UInt8)).1) (plainF 1425)).1 ≠ 2 := by omega
    exfalso; exact h36 (by rw [lives_tab]; kernel_rfl)
  ·intro h37
   replace h37 : (atM 0 (wholeF (clsF ([35, 32, 64, 109, 105, 115, 115, 105, 110, 103, 58, 32, 48, 48, 48, 48, 46, 46, 49, 48, 70, 70, 70, 70, 59, 32, 76, 101, 102, 116, 95, 84, 111, 95, 82, 105, 103, 104, 116, 10, 35, 32, 64, 109, 105, 115, 115, 105, 110, 103, 58, 32, 48, 53, 57, 48, 46, 46, 48, 53, 70, 70, 59, 32, 82, 10, 10, 48, 48, 51, 48, 46, 46, 48, 48, 51, 57, 32, 59, 32, 69, 78, 32, 35, 32, 100, 105, 103, 105, 116, 115, 10, 48, 53, 68, 48, 32, 59, 32, 82, 105, 103, 104, 116, 32, 84, 111, 32, 76, 101, 102, 116, 10] : List UInt8)).1) (plainF 49)).1 ≠ 4 := by omega
   exfalso; exact h37 (by rw [lives_tab]; kernel_rfl)
 ·intro h38
  exfalso; rw [lives_tab] at h38; exact absurd h38 (by decide +kernel)
end Go.Proofs.YtkclikfejmeblaaGreatDoor
end

/- === Wcnot === -/
section
/- Walks, written by my program walk.py out of the specification cnot.py: each theorem says what one function returns and that it leaves memory as it was. -/
namespace Go.Proofs.YtkclikfejmeblaaGreatDoor
open Go Go.RowKit Go.FK
set_option linter.unusedVariables false
set_option linter.unusedSimpArgs false
attribute [local irreducible] clsF wholeF writeC atM plainF
set_option maxHeartbeats 40000000 in
set_option maxRecDepth 100000 in
theorem c_furrowlaw07_ClassesNotes (s : List UInt8) (lo : Int) (long : Int) (r : Int) (w : World) {m_ml : Int} (hml : w.cell? ⟨1, 0, none⟩ = some (.int .i64 m_ml)) :
  Calls Tryz.prog 5 #[(S s), (.int .i32 lo), (.int .i64 long), (.int .i32 r)] w (Ret fun v w' => v = (.bool true) ∧ Below w.heap.size w w') := by
 refine enter (args := [(S s), (.int .i32 lo), (.int .i64 long), (.int .i32 r)]) Tryz.func5 rfl (by kernel_rfl : _ = 157) (by kernel_rfl) ?_
 have hb := Below.refl w.heap.size w
 have hs : w.heap.size ≤ w.heap.size := Nat.le_refl _
 have hlr := line_rng s (plainF r)
 refine zF (zD (zJ (zE (zA (zF (zF (zD (zH (L_slen 9 s rfl Tryz.underlying9 (by kernel_rfl) (yD .i64 (((s).length : Nat) : Int) ((40000 : Nat) : Int) (40000 < (s).length) rfl (cmpN_gt ((s).length) 40000) (by kernel_rfl) (by kernel_rfl) ?_ ?_))))))))))
 ·intro h1
  replace h1 : 40000 < (s).length := by omega
  refine zH (yC (by kernel_rfl) (yC (by kernel_rfl) (yJ (by kernel_rfl) (zE (zA (zT (by kernel_rfl) (zF (zD (zZ 9 [] (by kernel_rfl) (by kernel_rfl) (c_lives7  _ (gcell_below hml hb)) ?_)))))))))
  rintro _ w2 ⟨rfl, hB3⟩
  replace hb := hb.trans (hB3.mono hs)
  replace hs := Nat.le_trans hs (hB3.size)
  refine zJ (zE (zA (zY (zK ?_))))
  refine zO [.tmp 8] [(.bool true)] rfl rfl ⟨by kernel_rfl, trivial⟩ ?_
  have e0 : true = true := by rfl
  exact ⟨congrArg Value.bool e0, hb⟩
 ·intro h5
  replace h5 : (s).length ≤ 40000 := by omega
  refine zH (zS (by kernel_rfl) (zZ 9 [] (by kernel_rfl) (by kernel_rfl) (c_lives7  _ (gcell_below hml hb)) ?_))
  rintro _ w6 ⟨rfl, hB7⟩
  replace hb := hb.trans (hB7.mono hs)
  replace hs := Nat.le_trans hs (hB7.size)
  refine zS (by kernel_rfl) (L_not true (by kernel_rfl) (yM (by kernel_rfl) (zE (zA (zN (by kernel_rfl) (zW (zA (zF (zD (zH ?_))))))))))
  by_cases hq9 : (clsF s).2.2 = 0
  ·skip
   refine zZ 10 [(S ([120] : List UInt8)), (S s)] (by kernel_rfl) (by kernel_rfl) (c_classes_Read_ok ([120] : List UInt8) s _ (gcell_below hml hb) (by omega) (by with_reducible assumption)) ?_
   rintro _ w14 ⟨q10, q11, q12, q13, cb17, cb18, cb19, cb20, rfl, r_q10, r_q11, r_q12, r_q13, o_cb17, g_cb17, o_cb18, g_cb18, o_cb19, g_cb19, o_cb20, g_cb20, ne_cb17_cb18, ne_cb17_cb19, ne_cb17_cb20, ne_cb18_cb19, ne_cb18_cb20, ne_cb19_cb20, hB15⟩
   replace g_cb17 := Nat.le_trans hs g_cb17
   replace g_cb18 := Nat.le_trans hs g_cb18
   replace g_cb19 := Nat.le_trans hs g_cb19
   replace g_cb20 := Nat.le_trans hs g_cb20
   replace r_q10 := r_q10.base hs
   replace r_q11 := r_q11.base hs
   replace r_q12 := r_q12.base hs
   replace r_q13 := r_q13.base hs
   replace hb := hb.trans (hB15.mono hs)
   replace hs := Nat.le_trans hs (hB15.size)
   refine zH (zP (.pointer (some ⟨cb17, 0, none⟩)) (by kernel_rfl) (by kernel_rfl) (zP .nilIface (by kernel_rfl) (by kernel_rfl) (zJ (zJ (zE (zA ?_))))))
   refine W_cut (fun s0 w0 => (s0.ds = []) ∧ (s0.f 0 = (S s)) ∧ (s0.f 3 = (.int .i32 r)) ∧ (s0.f 9 = (.pointer (some ⟨cb17, 0, none⟩))) ∧ (s0.f 10 = .nilIface) ∧ (Row w0 w.heap.size 45 3 encSpanC q10 ((clsF s).1.2.2)) ∧ (Row w0 w.heap.size 126 3 encSpanC q11 ((clsF s).1.1)) ∧ (Row w0 w.heap.size 131 3 encSpanI q12 ((clsF s).1.2.1)) ∧ (Row w0 w.heap.size 126 3 encSpanC q13 (wholeF (clsF s).1)) ∧ (w0.heap[cb17]? = some (.cells [(.pointer (some ⟨cb18, 0, none⟩)), (.pointer (some ⟨cb19, 0, none⟩)), q10, (.pointer (some ⟨cb20, 0, none⟩))].toArray 66 (0, 0))) ∧ (w0.heap[cb18]? = some (.cells [q11, (.bool true)].toArray 115 (0, 0))) ∧ (w0.heap[cb19]? = some (.cells [q12, (.bool true)].toArray 118 (0, 0))) ∧ (w0.heap[cb20]? = some (.cells [q13, (.bool true)].toArray 115 (0, 0))) ∧ (Below w.heap.size w w0) ∧ (w.heap.size ≤ w0.heap.size) ∧ (markN s = 0)) ?_ ?_
   ·refine zF (zD (zH (L_slen 9 s rfl Tryz.underlying9 (by kernel_rfl) (yD .i64 (((s).length : Nat) : Int) ((3 : Nat) : Int) (3 ≤ (s).length) rfl (cmpN_ge ((s).length) 3) (by kernel_rfl) (by kernel_rfl) ?_ ?_))))
    ·intro h21
     replace h21 : 3 ≤ (s).length := by omega
     refine zH (zS (by kernel_rfl) (zH (zS (by kernel_rfl) (L_ssto s 3 Tryz.underlying9 (by kernel_rfl) ⟨.i64, by kernel_rfl⟩ (by omega) (zS (by kernel_rfl) (L_seq (List.take 3 s) ([239, 187, 191] : List UInt8) rfl (by kernel_rfl) (by kernel_rfl) ?_ ?_))))))
     ·intro h22
      refine yJ (by kernel_rfl) (zE (zA (zT (by kernel_rfl) (zF (zD (zJ (zE (zA (zY (zK ?_))))))))))
      refine zO [.tmp 8] [(.bool true)] rfl rfl ⟨by kernel_rfl, trivial⟩ ?_
      have e0 : true = true := by rfl
      exact ⟨congrArg Value.bool e0, hb⟩
     ·intro h23
      have mk := mark_none3 (Or.inr h23)
      refine yJ (by kernel_rfl) (zE (zA (zN (by kernel_rfl) (zW ?_))))
      refine zA ⟨rfl, by kernel_rfl, by kernel_rfl, by kernel_rfl, by kernel_rfl, r_q10, r_q11, r_q12, r_q13, o_cb17, o_cb18, o_cb19, o_cb20, hb, hs, ?_⟩
      exact mk
    ·intro h24
     replace h24 : (s).length < 3 := by omega
     have mk := mark_none3 (Or.inl h24)
     refine zH (yC (by kernel_rfl) (yC (by kernel_rfl) (yC (by kernel_rfl) (yM (by kernel_rfl) (zE (zA (zN (by kernel_rfl) (zW ?_))))))))
     refine zA ⟨rfl, by kernel_rfl, by kernel_rfl, by kernel_rfl, by kernel_rfl, r_q10, r_q11, r_q12, r_q13, o_cb17, o_cb18, o_cb19, o_cb20, hb, hs, ?_⟩
     exact mk
   ·rintro s25 w26 ⟨hds, f_0, f_3, f_9, f_10, r_q10, r_q11, r_q12, r_q13, o_cb17, o_cb18, o_cb19, o_cb20, hb, hs, mk⟩
    refine yH 0 _ f_0 (yH 3 _ f_3 (yH 9 _ f_9 (yH 10 _ f_10 ?_)))
    clear f_0 f_3 f_9 f_10
    refine zF (zD (zH (L_sadd ([35, 32, 97, 32, 110, 111, 116, 101, 10, 10] : List UInt8) s (by (simp only [List.length_append, List.length_cons, List.length_nil]; omega)) (by kernel_rfl) (by kernel_rfl) ?_)))
    by_cases hq27 : (clsF (([35, 32, 97, 32, 110, 111, 116, 101, 10, 10] : List UInt8) ++ s)).2.2 = 0
    ·skip
     refine zZ 10 [(S ([120] : List UInt8)), (S (([35, 32, 97, 32, 110, 111, 116, 101, 10, 10] : List UInt8) ++ s))] (by kernel_rfl) (by kernel_rfl) (c_classes_Read_ok ([120] : List UInt8) (([35, 32, 97, 32, 110, 111, 116, 101, 10, 10] : List UInt8) ++ s) _ (gcell_below hml hb) (by (simp; omega)) (by with_reducible assumption)) ?_
     rintro _ w32 ⟨q28, q29, q30, q31, cb35, cb36, cb37, cb38, rfl, r_q28, r_q29, r_q30, r_q31, o_cb35, g_cb35, o_cb36, g_cb36, o_cb37, g_cb37, o_cb38, g_cb38, ne_cb35_cb36, ne_cb35_cb37, ne_cb35_cb38, ne_cb36_cb37, ne_cb36_cb38, ne_cb37_cb38, hB33⟩
     replace g_cb35 := Nat.le_trans hs g_cb35
     replace g_cb36 := Nat.le_trans hs g_cb36
     replace g_cb37 := Nat.le_trans hs g_cb37
     replace g_cb38 := Nat.le_trans hs g_cb38
     replace r_q28 := r_q28.base hs
     replace r_q29 := r_q29.base hs
     replace r_q30 := r_q30.base hs
     replace r_q31 := r_q31.base hs
     replace hb := hb.trans (hB33.mono hs)
     replace hs := Nat.le_trans hs (hB33.size)
     replace o_cb17 := zB o_cb17 hB33
     replace o_cb18 := zB o_cb18 hB33
     replace o_cb19 := zB o_cb19 hB33
     replace o_cb20 := zB o_cb20 hB33
     replace r_q10 := r_q10.below hB33
     replace r_q11 := r_q11.below hB33
     replace r_q12 := r_q12.below hB33
     replace r_q13 := r_q13.below hB33
     refine zH (zP (.pointer (some ⟨cb35, 0, none⟩)) (by kernel_rfl) (by kernel_rfl) (zP .nilIface (by kernel_rfl) (by kernel_rfl) (zJ (zJ (zE (zA (zF (zF (W_quiet (by kernel_rfl) (by kernel_rfl) (yF (yL (.bool true) (fun _ => by kernel_rfl) (yF (yL (.bool true) (fun _ => by kernel_rfl) (yL (.bool false) (fun _ => by kernel_rfl) (xA ?_)))))))))))))))
     intro w39 hB40
     replace hb := hb.trans (hB40.mono hs)
     replace hs := Nat.le_trans hs (hB40.size)
     replace o_cb17 := zB o_cb17 hB40
     replace o_cb18 := zB o_cb18 hB40
     replace o_cb19 := zB o_cb19 hB40
     replace o_cb20 := zB o_cb20 hB40
     replace o_cb35 := zB o_cb35 hB40
     replace o_cb36 := zB o_cb36 hB40
     replace o_cb37 := zB o_cb37 hB40
     replace o_cb38 := zB o_cb38 hB40
     replace r_q10 := r_q10.below hB40
     replace r_q11 := r_q11.below hB40
     replace r_q12 := r_q12.below hB40
     replace r_q13 := r_q13.below hB40
     replace r_q28 := r_q28.below hB40
     replace r_q29 := r_q29.below hB40
     replace r_q30 := r_q30.below hB40
     replace r_q31 := r_q31.below hB40
     refine zA (zN (by kernel_rfl) (zW (zA (zF (zF (zD (zH (zP (.bool false) (by kernel_rfl) (by kernel_rfl) (zE (zA (zN (by kernel_rfl) (zW (zA ?_)))))))))))))
     refine W_cut (fun s0 w0 => (s0.ds = []) ∧ (s0.f 0 = (S s)) ∧ (s0.f 3 = (.int .i32 r)) ∧ (s0.f 9 = (.pointer (some ⟨cb17, 0, none⟩))) ∧ (s0.f 10 = .nilIface) ∧ (s0.f 12 = .nilIface) ∧ (Row w0 w.heap.size 45 3 encSpanC q10 ((clsF s).1.2.2)) ∧ (Row w0 w.heap.size 126 3 encSpanC q11 ((clsF s).1.1)) ∧ (Row w0 w.heap.size 131 3 encSpanI q12 ((clsF s).1.2.1)) ∧ (Row w0 w.heap.size 126 3 encSpanC q13 (wholeF (clsF s).1)) ∧ (w0.heap[cb17]? = some (.cells [(.pointer (some ⟨cb18, 0, none⟩)), (.pointer (some ⟨cb19, 0, none⟩)), q10, (.pointer (some ⟨cb20, 0, none⟩))].toArray 66 (0, 0))) ∧ (w0.heap[cb18]? = some (.cells [q11, (.bool true)].toArray 115 (0, 0))) ∧ (w0.heap[cb19]? = some (.cells [q12, (.bool true)].toArray 118 (0, 0))) ∧ (w0.heap[cb20]? = some (.cells [q13, (.bool true)].toArray 115 (0, 0))) ∧ (Below w.heap.size w w0) ∧ (w.heap.size ≤ w0.heap.size)) ?_ ?_
     ·refine zF (zD (zH (zH (zZ 12 [(.pointer (some ⟨cb17, 0, none⟩)), (.int .i32 r)] (by kernel_rfl) (by kernel_rfl) (c_tClass cb17 cb18 cb19 q10 cb20 r q13 (wholeF (clsF s).1) _ o_cb17 o_cb20 r_q13.rd (by with_reducible exact (whole_ok _).rise)) ?_))))
      rintro _ w41 ⟨rfl, hB42⟩
      replace hb := hb.trans (hB42.mono hs)
      replace hs := Nat.le_trans hs (hB42.size)
      replace o_cb17 := zB o_cb17 hB42
      replace o_cb18 := zB o_cb18 hB42
      replace o_cb19 := zB o_cb19 hB42
      replace o_cb20 := zB o_cb20 hB42
      replace o_cb35 := zB o_cb35 hB42
      replace o_cb36 := zB o_cb36 hB42
      replace o_cb37 := zB o_cb37 hB42
      replace o_cb38 := zB o_cb38 hB42
      replace r_q10 := r_q10.below hB42
      replace r_q11 := r_q11.below hB42
      replace r_q12 := r_q12.below hB42
      replace r_q13 := r_q13.below hB42
      replace r_q28 := r_q28.below hB42
      replace r_q29 := r_q29.below hB42
      replace r_q30 := r_q30.below hB42
      replace r_q31 := r_q31.below hB42
      refine zH (zH (zZ 12 [(.pointer (some ⟨cb35, 0, none⟩)), (.int .i32 r)] (by kernel_rfl) (by kernel_rfl) (c_tClass cb35 cb36 cb37 q28 cb38 r q31 (wholeF (clsF (([35, 32, 97, 32, 110, 111, 116, 101, 10, 10] : List UInt8) ++ s)).1) _ o_cb35 o_cb38 r_q31.rd (by with_reducible exact (whole_ok _).rise)) ?_))
      rintro _ w44 ⟨rfl, hB45⟩
      replace hb := hb.trans (hB45.mono hs)
      replace hs := Nat.le_trans hs (hB45.size)
      replace o_cb17 := zB o_cb17 hB45
      replace o_cb18 := zB o_cb18 hB45
      replace o_cb19 := zB o_cb19 hB45
      replace o_cb20 := zB o_cb20 hB45
      replace o_cb35 := zB o_cb35 hB45
      replace o_cb36 := zB o_cb36 hB45
      replace o_cb37 := zB o_cb37 hB45
      replace r_q10 := r_q10.below hB45
      replace r_q11 := r_q11.below hB45
      replace r_q12 := r_q12.below hB45
      replace r_q13 := r_q13.below hB45
      replace r_q28 := r_q28.below hB45
      replace r_q29 := r_q29.below hB45
      replace r_q30 := r_q30.below hB45
      refine yD .u8 ((atM 0 (wholeF (clsF s).1) (plainF r)).1) ((atM 0 (wholeF (clsF (([35, 32, 97, 32, 110, 111, 116, 101, 10, 10] : List UInt8) ++ s)).1) (plainF r)).1) ((atM 0 (wholeF (clsF s).1) (plainF r)).1 ≠ (atM 0 (wholeF (clsF (([35, 32, 97, 32, 110, 111, 116, 101, 10, 10] : List UInt8) ++ s)).1) (plainF r)).1) rfl (cmp_ne ((atM 0 (wholeF (clsF s).1) (plainF r)).1) ((atM 0 (wholeF (clsF (([35, 32, 97, 32, 110, 111, 116, 101, 10, 10] : List UInt8) ++ s)).1) (plainF r)).1)) (by kernel_rfl) (by kernel_rfl) ?_ ?_
      ·intro h47
       replace h47 : (atM 0 (wholeF (clsF s).1) (plainF r)).1 ≠ (atM 0 (wholeF (clsF (([35, 32, 97, 32, 110, 111, 116, 101, 10, 10] : List UInt8) ++ s)).1) (plainF r)).1 := by omega
       exfalso; exact h47 (congrArg (fun t => (atM 0 t (plainF r)).1) (u_cls mk (by with_reducible assumption)).symm)
      ·intro h48
       replace h48 : (atM 0 (wholeF (clsF s).1) (plainF r)).1 = (atM 0 (wholeF (clsF (([35, 32, 97, 32, 110, 111, 116, 101, 10, 10] : List UInt8) ++ s)).1) (plainF r)).1 := by omega
       refine zH (zS (by kernel_rfl) (zH (zS (by kernel_rfl) (zH (zS (by kernel_rfl) (zZ 14 [(.pointer (some ⟨cb17, 0, none⟩)), (.int .i32 r)] (by kernel_rfl) (by kernel_rfl) (c_tLine cb17 cb18 cb19 q10 cb20 r q12 ((clsF s).1.2.1) _ o_cb17 o_cb19 r_q12.rd (by with_reducible exact (cls_ok _).2.1.rise)) ?_))))))
       rintro _ w49 ⟨rfl, hB50⟩
       replace hb := hb.trans (hB50.mono hs)
       replace hs := Nat.le_trans hs (hB50.size)
       replace o_cb17 := zB o_cb17 hB50
       replace o_cb18 := zB o_cb18 hB50
       replace o_cb19 := zB o_cb19 hB50
       replace o_cb20 := zB o_cb20 hB50
       replace o_cb35 := zB o_cb35 hB50
       replace o_cb36 := zB o_cb36 hB50
       replace o_cb37 := zB o_cb37 hB50
       replace r_q10 := r_q10.below hB50
       replace r_q11 := r_q11.below hB50
       replace r_q12 := r_q12.below hB50
       replace r_q13 := r_q13.below hB50
       replace r_q28 := r_q28.below hB50
       replace r_q29 := r_q29.below hB50
       replace r_q30 := r_q30.below hB50
       refine zS (by kernel_rfl) (yD .i64 ((atM 0 ((clsF s).1.2.1) (plainF r)).1) 0 ((atM 0 ((clsF s).1.2.1) (plainF r)).1 ≠ 0) rfl (cmp_ne ((atM 0 ((clsF s).1.2.1) (plainF r)).1) 0) (by kernel_rfl) (by kernel_rfl) ?_ ?_)
       ·intro h52
        replace h52 : (atM 0 ((clsF s).1.2.1) (plainF r)).1 ≠ 0 := by omega
        refine zS (by kernel_rfl) (zH (zS (by kernel_rfl) (zH (zS (by kernel_rfl) (zH (zS (by kernel_rfl) (zZ 14 [(.pointer (some ⟨cb35, 0, none⟩)), (.int .i32 r)] (by kernel_rfl) (by kernel_rfl) (c_tLine cb35 cb36 cb37 q28 cb38 r q30 ((clsF (([35, 32, 97, 32, 110, 111, 116, 101, 10, 10] : List UInt8) ++ s)).1.2.1) _ o_cb35 o_cb37 r_q30.rd (by with_reducible exact (cls_ok _).2.1.rise)) ?_)))))))
        rintro _ w53 ⟨rfl, hB54⟩
        replace hb := hb.trans (hB54.mono hs)
        replace hs := Nat.le_trans hs (hB54.size)
        replace o_cb17 := zB o_cb17 hB54
        replace o_cb18 := zB o_cb18 hB54
        replace o_cb19 := zB o_cb19 hB54
        replace o_cb20 := zB o_cb20 hB54
        replace o_cb35 := zB o_cb35 hB54
        replace o_cb36 := zB o_cb36 hB54
        replace r_q10 := r_q10.below hB54
        replace r_q11 := r_q11.below hB54
        replace r_q12 := r_q12.below hB54
        replace r_q13 := r_q13.below hB54
        replace r_q28 := r_q28.below hB54
        replace r_q29 := r_q29.below hB54
        refine zS (by kernel_rfl) (zH (zS (by kernel_rfl) (zH (zS (by kernel_rfl) (zZ 14 [(.pointer (some ⟨cb17, 0, none⟩)), (.int .i32 r)] (by kernel_rfl) (by kernel_rfl) (c_tLine cb17 cb18 cb19 q10 cb20 r q12 ((clsF s).1.2.1) _ o_cb17 o_cb19 r_q12.rd (by with_reducible exact (cls_ok _).2.1.rise)) ?_)))))
        rintro _ w56 ⟨rfl, hB57⟩
        replace hb := hb.trans (hB57.mono hs)
        replace hs := Nat.le_trans hs (hB57.size)
        replace o_cb17 := zB o_cb17 hB57
        replace o_cb18 := zB o_cb18 hB57
        replace o_cb19 := zB o_cb19 hB57
        replace o_cb20 := zB o_cb20 hB57
        replace o_cb35 := zB o_cb35 hB57
        replace o_cb36 := zB o_cb36 hB57
        replace r_q10 := r_q10.below hB57
        replace r_q11 := r_q11.below hB57
        replace r_q12 := r_q12.below hB57
        replace r_q13 := r_q13.below hB57
        replace r_q28 := r_q28.below hB57
        replace r_q29 := r_q29.below hB57
        refine zS (by kernel_rfl) (xT ((atM 0 ((clsF s).1.2.1) (plainF r)).1) 2 ((atM 0 ((clsF s).1.2.1) (plainF r)).1 + 2) rfl (by kernel_rfl) (by kernel_rfl) (xI _ (by simp only [arithZ]; omega) (by simp only [arithZ]; omega)) (zS (by kernel_rfl) (yD .i64 ((atM 0 ((clsF (([35, 32, 97, 32, 110, 111, 116, 101, 10, 10] : List UInt8) ++ s)).1.2.1) (plainF r)).1) ((atM 0 ((clsF s).1.2.1) (plainF r)).1 + 2) ((atM 0 ((clsF (([35, 32, 97, 32, 110, 111, 116, 101, 10, 10] : List UInt8) ++ s)).1.2.1) (plainF r)).1 ≠ ((atM 0 ((clsF s).1.2.1) (plainF r)).1 + 2)) rfl (cmp_ne ((atM 0 ((clsF (([35, 32, 97, 32, 110, 111, 116, 101, 10, 10] : List UInt8) ++ s)).1.2.1) (plainF r)).1) ((atM 0 ((clsF s).1.2.1) (plainF r)).1 + 2)) (by kernel_rfl) (by kernel_rfl) ?_ ?_)))
        ·intro h59
         replace h59 : (atM 0 ((clsF (([35, 32, 97, 32, 110, 111, 116, 101, 10, 10] : List UInt8) ++ s)).1.2.1) (plainF r)).1 ≠ ((atM 0 ((clsF s).1.2.1) (plainF r)).1 + 2) := by omega
         exfalso; exact h59 (u_line mk (by with_reducible assumption) (by with_reducible assumption))
        ·intro h60
         replace h60 : (atM 0 ((clsF (([35, 32, 97, 32, 110, 111, 116, 101, 10, 10] : List UInt8) ++ s)).1.2.1) (plainF r)).1 = ((atM 0 ((clsF s).1.2.1) (plainF r)).1 + 2) := by omega
         refine zS (by kernel_rfl) (yJ (by kernel_rfl) (yM (by kernel_rfl) (zH (zS (by kernel_rfl) (zH (zS (by kernel_rfl) (zZ 15 [(.pointer (some ⟨cb17, 0, none⟩))] (by kernel_rfl) (by kernel_rfl) (c_tWrite cb17 cb18 cb19 q10 ((clsF s).1.2.2) cb20 q11 ((clsF s).1.1) _ o_cb17 r_q10.rd o_cb18 r_q11.rd (by with_reducible exact (cls_cls _).2) (by with_reducible exact (cls_cls _).1) (by refine Nat.le_trans (by with_reducible exact (cls_ok _).2.2) (by omega)) (by with_reducible exact (cls_ok _).1.rise.len)) ?_)))))))
         rintro _ w61 ⟨rfl, hB62⟩
         replace hb := hb.trans (hB62.mono hs)
         replace hs := Nat.le_trans hs (hB62.size)
         replace o_cb17 := zB o_cb17 hB62
         replace o_cb18 := zB o_cb18 hB62
         replace o_cb19 := zB o_cb19 hB62
         replace o_cb20 := zB o_cb20 hB62
         replace o_cb35 := zB o_cb35 hB62
         replace o_cb36 := zB o_cb36 hB62
         replace r_q10 := r_q10.below hB62
         replace r_q11 := r_q11.below hB62
         replace r_q12 := r_q12.below hB62
         replace r_q13 := r_q13.below hB62
         replace r_q28 := r_q28.below hB62
         replace r_q29 := r_q29.below hB62
         have := write_lenC ((clsF s).1.2.2) ((clsF s).1.1)
         refine zS (by kernel_rfl) (zH (zS (by kernel_rfl) (zZ 15 [(.pointer (some ⟨cb35, 0, none⟩))] (by kernel_rfl) (by kernel_rfl) (c_tWrite cb35 cb36 cb37 q28 ((clsF (([35, 32, 97, 32, 110, 111, 116, 101, 10, 10] : List UInt8) ++ s)).1.2.2) cb38 q29 ((clsF (([35, 32, 97, 32, 110, 111, 116, 101, 10, 10] : List UInt8) ++ s)).1.1) _ o_cb35 r_q28.rd o_cb36 r_q29.rd (by with_reducible exact (cls_cls _).2) (by with_reducible exact (cls_cls _).1) (by refine Nat.le_trans (by with_reducible exact (cls_ok _).2.2) (by (simp only [List.length_append, List.length_cons, List.length_nil]; omega))) (by with_reducible exact (cls_ok _).1.rise.len)) ?_)))
         rintro _ w64 ⟨rfl, hB65⟩
         replace hb := hb.trans (hB65.mono hs)
         replace hs := Nat.le_trans hs (hB65.size)
         replace o_cb17 := zB o_cb17 hB65
         replace o_cb18 := zB o_cb18 hB65
         replace o_cb19 := zB o_cb19 hB65
         replace o_cb20 := zB o_cb20 hB65
         replace r_q10 := r_q10.below hB65
         replace r_q11 := r_q11.below hB65
         replace r_q12 := r_q12.below hB65
         replace r_q13 := r_q13.below hB65
         have := write_lenC ((clsF (([35, 32, 97, 32, 110, 111, 116, 101, 10, 10] : List UInt8) ++ s)).1.2.2) ((clsF (([35, 32, 97, 32, 110, 111, 116, 101, 10, 10] : List UInt8) ++ s)).1.1)
         refine zS (by kernel_rfl) (L_sne (writeC ((clsF s).1.2.2) ((clsF s).1.1)) (writeC ((clsF (([35, 32, 97, 32, 110, 111, 116, 101, 10, 10] : List UInt8) ++ s)).1.2.2) ((clsF (([35, 32, 97, 32, 110, 111, 116, 101, 10, 10] : List UInt8) ++ s)).1.1)) rfl (by kernel_rfl) (by kernel_rfl) ?_ ?_)
         ·intro h67
          exfalso; exact h67 (u_write mk (by with_reducible assumption)).symm
         ·intro h68
          refine yM (by kernel_rfl) (zE (zA (zN (by kernel_rfl) (zW ?_))))
          refine zA ⟨hds, by kernel_rfl, by kernel_rfl, by kernel_rfl, by kernel_rfl, by kernel_rfl, r_q10, r_q11, r_q12, r_q13, o_cb17, o_cb18, o_cb19, o_cb20, hb, hs⟩
       ·intro h69
        replace h69 : (atM 0 ((clsF s).1.2.1) (plainF r)).1 = 0 := by omega
        refine zS (by kernel_rfl) (zH (yC (by kernel_rfl) (yC (by kernel_rfl) (yC (by kernel_rfl) (yC (by kernel_rfl) (yC (by kernel_rfl) (yC (by kernel_rfl) (yC (by kernel_rfl) (yC (by kernel_rfl) (zS (by kernel_rfl) (yM (by kernel_rfl) (yM (by kernel_rfl) (zH (zS (by kernel_rfl) (zH (zS (by kernel_rfl) (zZ 15 [(.pointer (some ⟨cb17, 0, none⟩))] (by kernel_rfl) (by kernel_rfl) (c_tWrite cb17 cb18 cb19 q10 ((clsF s).1.2.2) cb20 q11 ((clsF s).1.1) _ o_cb17 r_q10.rd o_cb18 r_q11.rd (by with_reducible exact (cls_cls _).2) (by with_reducible exact (cls_cls _).1) (by refine Nat.le_trans (by with_reducible exact (cls_ok _).2.2) (by omega)) (by with_reducible exact (cls_ok _).1.rise.len)) ?_)))))))))))))))))
        rintro _ w70 ⟨rfl, hB71⟩
        replace hb := hb.trans (hB71.mono hs)
        replace hs := Nat.le_trans hs (hB71.size)
        replace o_cb17 := zB o_cb17 hB71
        replace o_cb18 := zB o_cb18 hB71
        replace o_cb19 := zB o_cb19 hB71
        replace o_cb20 := zB o_cb20 hB71
        replace o_cb35 := zB o_cb35 hB71
        replace o_cb36 := zB o_cb36 hB71
        replace r_q10 := r_q10.below hB71
        replace r_q11 := r_q11.below hB71
        replace r_q12 := r_q12.below hB71
        replace r_q13 := r_q13.below hB71
        replace r_q28 := r_q28.below hB71
        replace r_q29 := r_q29.below hB71
        have := write_lenC ((clsF s).1.2.2) ((clsF s).1.1)
        refine zS (by kernel_rfl) (zH (zS (by kernel_rfl) (zZ 15 [(.pointer (some ⟨cb35, 0, none⟩))] (by kernel_rfl) (by kernel_rfl) (c_tWrite cb35 cb36 cb37 q28 ((clsF (([35, 32, 97, 32, 110, 111, 116, 101, 10, 10] : List UInt8) ++ s)).1.2.2) cb38 q29 ((clsF (([35, 32, 97, 32, 110, 111, 116, 101, 10, 10] : List UInt8) ++ s)).1.1) _ o_cb35 r_q28.rd o_cb36 r_q29.rd (by with_reducible exact (cls_cls _).2) (by with_reducible exact (cls_cls _).1) (by refine Nat.le_trans (by with_reducible exact (cls_ok _).2.2) (by (simp only [List.length_append, List.length_cons, List.length_nil]; omega))) (by with_reducible exact (cls_ok _).1.rise.len)) ?_)))
        rintro _ w73 ⟨rfl, hB74⟩
        replace hb := hb.trans (hB74.mono hs)
        replace hs := Nat.le_trans hs (hB74.size)
        replace o_cb17 := zB o_cb17 hB74
        replace o_cb18 := zB o_cb18 hB74
        replace o_cb19 := zB o_cb19 hB74
        replace o_cb20 := zB o_cb20 hB74
        replace r_q10 := r_q10.below hB74
        replace r_q11 := r_q11.below hB74
        replace r_q12 := r_q12.below hB74
        replace r_q13 := r_q13.below hB74
        have := write_lenC ((clsF (([35, 32, 97, 32, 110, 111, 116, 101, 10, 10] : List UInt8) ++ s)).1.2.2) ((clsF (([35, 32, 97, 32, 110, 111, 116, 101, 10, 10] : List UInt8) ++ s)).1.1)
        refine zS (by kernel_rfl) (L_sne (writeC ((clsF s).1.2.2) ((clsF s).1.1)) (writeC ((clsF (([35, 32, 97, 32, 110, 111, 116, 101, 10, 10] : List UInt8) ++ s)).1.2.2) ((clsF (([35, 32, 97, 32, 110, 111, 116, 101, 10, 10] : List UInt8) ++ s)).1.1)) rfl (by kernel_rfl) (by kernel_rfl) ?_ ?_)
        ·intro h76
         exfalso; exact h76 (u_write mk (by with_reducible assumption)).symm
        ·intro h77
         refine yM (by kernel_rfl) (zE (zA (zN (by kernel_rfl) (zW ?_))))
         refine zA ⟨hds, by kernel_rfl, by kernel_rfl, by kernel_rfl, by kernel_rfl, by kernel_rfl, r_q10, r_q11, r_q12, r_q13, o_cb17, o_cb18, o_cb19, o_cb20, hb, hs⟩
     ·rintro s78 w79 ⟨hds, f_0, f_3, f_9, f_10, f_12, r_q10, r_q11, r_q12, r_q13, o_cb17, o_cb18, o_cb19, o_cb20, hb, hs⟩
      refine yH 0 _ f_0 (yH 3 _ f_3 (yH 9 _ f_9 (yH 10 _ f_10 (yH 12 _ f_12 ?_))))
      clear f_0 f_3 f_9 f_10 f_12
      refine zF (zD (zH (zH (zZ 13 [(.pointer (some ⟨cb17, 0, none⟩)), (.int .i32 r)] (by kernel_rfl) (by kernel_rfl) (c_tGiven cb17 cb18 cb19 q10 cb20 r q11 ((clsF s).1.1) _ o_cb17 o_cb18 r_q11.rd (by with_reducible exact (cls_ok _).1.rise)) ?_))))
      rintro _ w80 ⟨rfl, hB81⟩
      replace hb := hb.trans (hB81.mono hs)
      replace hs := Nat.le_trans hs (hB81.size)
      replace o_cb17 := zB o_cb17 hB81
      replace o_cb20 := zB o_cb20 hB81
      replace r_q13 := r_q13.below hB81
      refine zH (zP (.int .u8 ((atM 0 ((clsF s).1.1) (plainF r)).1)) (by kernel_rfl) (by kernel_rfl) (zP (.bool ((atM 0 ((clsF s).1.1) (plainF r)).2)) (by kernel_rfl) (by kernel_rfl) (zJ (zJ (zE (zA (zF (zD (zH (L_sadd ([35, 32, 64, 109, 105, 115, 115, 105, 110, 103, 58, 32, 48, 48, 48, 48, 46, 46, 49, 48, 70, 70, 70, 70, 59, 32, 65, 78, 10] : List UInt8) s (by (simp only [List.length_append, List.length_cons, List.length_nil]; omega)) (by kernel_rfl) (by kernel_rfl) ?_))))))))))
      by_cases hq83 : (clsF (([35, 32, 64, 109, 105, 115, 115, 105, 110, 103, 58, 32, 48, 48, 48, 48, 46, 46, 49, 48, 70, 70, 70, 70, 59, 32, 65, 78, 10] : List UInt8) ++ s)).2.2 = 0
      ·skip
       refine zZ 10 [(S ([120] : List UInt8)), (S (([35, 32, 64, 109, 105, 115, 115, 105, 110, 103, 58, 32, 48, 48, 48, 48, 46, 46, 49, 48, 70, 70, 70, 70, 59, 32, 65, 78, 10] : List UInt8) ++ s))] (by kernel_rfl) (by kernel_rfl) (c_classes_Read_ok ([120] : List UInt8) (([35, 32, 64, 109, 105, 115, 115, 105, 110, 103, 58, 32, 48, 48, 48, 48, 46, 46, 49, 48, 70, 70, 70, 70, 59, 32, 65, 78, 10] : List UInt8) ++ s) _ (gcell_below hml hb) (by (simp; omega)) (by with_reducible assumption)) ?_
       rintro _ w88 ⟨q84, q85, q86, q87, cb91, cb92, cb93, cb94, rfl, r_q84, r_q85, r_q86, r_q87, o_cb91, g_cb91, o_cb92, g_cb92, o_cb93, g_cb93, o_cb94, g_cb94, ne_cb91_cb92, ne_cb91_cb93, ne_cb91_cb94, ne_cb92_cb93, ne_cb92_cb94, ne_cb93_cb94, hB89⟩
       replace g_cb91 := Nat.le_trans hs g_cb91
       replace g_cb92 := Nat.le_trans hs g_cb92
       replace g_cb93 := Nat.le_trans hs g_cb93
       replace g_cb94 := Nat.le_trans hs g_cb94
       replace r_q87 := r_q87.base hs
       replace hb := hb.trans (hB89.mono hs)
       replace hs := Nat.le_trans hs (hB89.size)
       replace o_cb17 := zB o_cb17 hB89
       replace o_cb20 := zB o_cb20 hB89
       replace r_q13 := r_q13.below hB89
       refine zH (zP (.pointer (some ⟨cb91, 0, none⟩)) (by kernel_rfl) (by kernel_rfl) (zP .nilIface (by kernel_rfl) (by kernel_rfl) (zJ (zJ (zE (zA (zF (zD (zH (L_sadd s ([10, 35, 32, 64, 109, 105, 115, 115, 105, 110, 103, 58, 32, 48, 48, 48, 48, 46, 46, 49, 48, 70, 70, 70, 70, 59, 32, 65, 78, 10] : List UInt8) (by (simp only [List.length_append, List.length_cons, List.length_nil]; omega)) (by kernel_rfl) (by kernel_rfl) ?_))))))))))
       by_cases hq95 : (clsF (s ++ ([10, 35, 32, 64, 109, 105, 115, 115, 105, 110, 103, 58, 32, 48, 48, 48, 48, 46, 46, 49, 48, 70, 70, 70, 70, 59, 32, 65, 78, 10] : List UInt8))).2.2 = 0
       ·skip
        refine zZ 10 [(S ([120] : List UInt8)), (S (s ++ ([10, 35, 32, 64, 109, 105, 115, 115, 105, 110, 103, 58, 32, 48, 48, 48, 48, 46, 46, 49, 48, 70, 70, 70, 70, 59, 32, 65, 78, 10] : List UInt8)))] (by kernel_rfl) (by kernel_rfl) (c_classes_Read_ok ([120] : List UInt8) (s ++ ([10, 35, 32, 64, 109, 105, 115, 115, 105, 110, 103, 58, 32, 48, 48, 48, 48, 46, 46, 49, 48, 70, 70, 70, 70, 59, 32, 65, 78, 10] : List UInt8)) _ (gcell_below hml hb) (by (simp; omega)) (by with_reducible assumption)) ?_
        rintro _ w100 ⟨q96, q97, q98, q99, cb103, cb104, cb105, cb106, rfl, r_q96, r_q97, r_q98, r_q99, o_cb103, g_cb103, o_cb104, g_cb104, o_cb105, g_cb105, o_cb106, g_cb106, ne_cb103_cb104, ne_cb103_cb105, ne_cb103_cb106, ne_cb104_cb105, ne_cb104_cb106, ne_cb105_cb106, hB101⟩
        replace g_cb103 := Nat.le_trans hs g_cb103
        replace g_cb104 := Nat.le_trans hs g_cb104
        replace g_cb105 := Nat.le_trans hs g_cb105
        replace g_cb106 := Nat.le_trans hs g_cb106
        replace r_q99 := r_q99.base hs
        replace hb := hb.trans (hB101.mono hs)
        replace hs := Nat.le_trans hs (hB101.size)
        replace o_cb17 := zB o_cb17 hB101
        replace o_cb20 := zB o_cb20 hB101
        replace o_cb91 := zB o_cb91 hB101
        replace o_cb94 := zB o_cb94 hB101
        replace r_q13 := r_q13.below hB101
        replace r_q87 := r_q87.below hB101
        refine zH (zP (.pointer (some ⟨cb103, 0, none⟩)) (by kernel_rfl) (by kernel_rfl) (zP .nilIface (by kernel_rfl) (by kernel_rfl) (zJ (zJ (zE (zA (zF (zF (zD (zH (zP (.bool false) (by kernel_rfl) (by kernel_rfl) (zH (zS (by kernel_rfl) (zH (zS (by kernel_rfl) (zP (.bool false) (by kernel_rfl) (by kernel_rfl) (yM (by kernel_rfl) (zH (zS (by kernel_rfl) (zH (zS (by kernel_rfl) (zP (.bool false) (by kernel_rfl) (by kernel_rfl) (yM (by kernel_rfl) (zH (zS (by kernel_rfl) (zH (zS (by kernel_rfl) (zP (.bool false) (by kernel_rfl) (by kernel_rfl) (yM (by kernel_rfl) (zE (zA (zN (by kernel_rfl) (zW (zA (zF (zF (zD (zH (zE (zA ?_))))))))))))))))))))))))))))))))))))))))
        rcases Bool.eq_false_or_eq_true ((atM 0 ((clsF s).1.1) (plainF r)).2) with hc107 | hc107
        ·skip
         refine W_ifT hc107 (by kernel_rfl) (zF (zD (zH (zH (zZ 12 [(.pointer (some ⟨cb91, 0, none⟩)), (.int .i32 r)] (by kernel_rfl) (by kernel_rfl) (c_tClass cb91 cb92 cb93 q84 cb94 r q87 (wholeF (clsF (([35, 32, 64, 109, 105, 115, 115, 105, 110, 103, 58, 32, 48, 48, 48, 48, 46, 46, 49, 48, 70, 70, 70, 70, 59, 32, 65, 78, 10] : List UInt8) ++ s)).1) _ o_cb91 o_cb94 r_q87.rd (by with_reducible exact (whole_ok _).rise)) ?_)))))
         rintro _ w108 ⟨rfl, hB109⟩
         replace hb := hb.trans (hB109.mono hs)
         replace hs := Nat.le_trans hs (hB109.size)
         replace o_cb103 := zB o_cb103 hB109
         replace o_cb106 := zB o_cb106 hB109
         replace r_q99 := r_q99.below hB109
         refine zH (yD .u8 ((atM 0 (wholeF (clsF (([35, 32, 64, 109, 105, 115, 115, 105, 110, 103, 58, 32, 48, 48, 48, 48, 46, 46, 49, 48, 70, 70, 70, 70, 59, 32, 65, 78, 10] : List UInt8) ++ s)).1) (plainF r)).1) ((atM 0 ((clsF s).1.1) (plainF r)).1) ((atM 0 (wholeF (clsF (([35, 32, 64, 109, 105, 115, 115, 105, 110, 103, 58, 32, 48, 48, 48, 48, 46, 46, 49, 48, 70, 70, 70, 70, 59, 32, 65, 78, 10] : List UInt8) ++ s)).1) (plainF r)).1 = (atM 0 ((clsF s).1.1) (plainF r)).1) rfl (yO ((atM 0 (wholeF (clsF (([35, 32, 64, 109, 105, 115, 115, 105, 110, 103, 58, 32, 48, 48, 48, 48, 46, 46, 49, 48, 70, 70, 70, 70, 59, 32, 65, 78, 10] : List UInt8) ++ s)).1) (plainF r)).1) ((atM 0 ((clsF s).1.1) (plainF r)).1)) (by kernel_rfl) (by kernel_rfl) ?_ ?_)
         ·intro h111
          replace h111 : (atM 0 (wholeF (clsF (([35, 32, 64, 109, 105, 115, 115, 105, 110, 103, 58, 32, 48, 48, 48, 48, 46, 46, 49, 48, 70, 70, 70, 70, 59, 32, 65, 78, 10] : List UInt8) ++ s)).1) (plainF r)).1 = (atM 0 ((clsF s).1.1) (plainF r)).1 := by omega
          refine zH (zS (by kernel_rfl) (zH (zS (by kernel_rfl) (zH (zS (by kernel_rfl) (zZ 12 [(.pointer (some ⟨cb103, 0, none⟩)), (.int .i32 r)] (by kernel_rfl) (by kernel_rfl) (c_tClass cb103 cb104 cb105 q96 cb106 r q99 (wholeF (clsF (s ++ ([10, 35, 32, 64, 109, 105, 115, 115, 105, 110, 103, 58, 32, 48, 48, 48, 48, 46, 46, 49, 48, 70, 70, 70, 70, 59, 32, 65, 78, 10] : List UInt8))).1) _ o_cb103 o_cb106 r_q99.rd (by with_reducible exact (whole_ok _).rise)) ?_))))))
          rintro _ w112 ⟨rfl, hB113⟩
          replace hb := hb.trans (hB113.mono hs)
          replace hs := Nat.le_trans hs (hB113.size)
          refine zS (by kernel_rfl) (zH (zS (by kernel_rfl) (yD .u8 ((atM 0 (wholeF (clsF (s ++ ([10, 35, 32, 64, 109, 105, 115, 115, 105, 110, 103, 58, 32, 48, 48, 48, 48, 46, 46, 49, 48, 70, 70, 70, 70, 59, 32, 65, 78, 10] : List UInt8))).1) (plainF r)).1) ((atM 0 ((clsF s).1.1) (plainF r)).1) ((atM 0 (wholeF (clsF (s ++ ([10, 35, 32, 64, 109, 105, 115, 115, 105, 110, 103, 58, 32, 48, 48, 48, 48, 46, 46, 49, 48, 70, 70, 70, 70, 59, 32, 65, 78, 10] : List UInt8))).1) (plainF r)).1 = (atM 0 ((clsF s).1.1) (plainF r)).1) rfl (yO ((atM 0 (wholeF (clsF (s ++ ([10, 35, 32, 64, 109, 105, 115, 115, 105, 110, 103, 58, 32, 48, 48, 48, 48, 46, 46, 49, 48, 70, 70, 70, 70, 59, 32, 65, 78, 10] : List UInt8))).1) (plainF r)).1) ((atM 0 ((clsF s).1.1) (plainF r)).1)) (by kernel_rfl) (by kernel_rfl) ?_ ?_)))
          ·intro h115
           replace h115 : (atM 0 (wholeF (clsF (s ++ ([10, 35, 32, 64, 109, 105, 115, 115, 105, 110, 103, 58, 32, 48, 48, 48, 48, 46, 46, 49, 48, 70, 70, 70, 70, 59, 32, 65, 78, 10] : List UInt8))).1) (plainF r)).1 = (atM 0 ((clsF s).1.1) (plainF r)).1 := by omega
           refine yJ (by kernel_rfl) (zJ (zE (zA (zY (zK ?_)))))
           refine zO [.tmp 8] [(.bool true)] rfl hds ⟨by kernel_rfl, trivial⟩ ?_
           have e0 : true = true := by rfl
           exact ⟨congrArg Value.bool e0, hb⟩
          ·intro h116
           replace h116 : (atM 0 (wholeF (clsF (s ++ ([10, 35, 32, 64, 109, 105, 115, 115, 105, 110, 103, 58, 32, 48, 48, 48, 48, 46, 46, 49, 48, 70, 70, 70, 70, 59, 32, 65, 78, 10] : List UInt8))).1) (plainF r)).1 ≠ (atM 0 ((clsF s).1.1) (plainF r)).1 := by omega
           exfalso; exact h116 (v_named mk (by with_reducible assumption) (by with_reducible assumption)).2
         ·intro h117
          replace h117 : (atM 0 (wholeF (clsF (([35, 32, 64, 109, 105, 115, 115, 105, 110, 103, 58, 32, 48, 48, 48, 48, 46, 46, 49, 48, 70, 70, 70, 70, 59, 32, 65, 78, 10] : List UInt8) ++ s)).1) (plainF r)).1 ≠ (atM 0 ((clsF s).1.1) (plainF r)).1 := by omega
          exfalso; exact h117 (v_named mk (by with_reducible assumption) (by with_reducible assumption)).1
        ·skip
         refine W_ifF hc107 (by kernel_rfl) (zW (zA (zF (zD (zH (zH (zZ 12 [(.pointer (some ⟨cb103, 0, none⟩)), (.int .i32 r)] (by kernel_rfl) (by kernel_rfl) (c_tClass cb103 cb104 cb105 q96 cb106 r q99 (wholeF (clsF (s ++ ([10, 35, 32, 64, 109, 105, 115, 115, 105, 110, 103, 58, 32, 48, 48, 48, 48, 46, 46, 49, 48, 70, 70, 70, 70, 59, 32, 65, 78, 10] : List UInt8))).1) _ o_cb103 o_cb106 r_q99.rd (by with_reducible exact (whole_ok _).rise)) ?_)))))))
         rintro _ w118 ⟨rfl, hB119⟩
         replace hb := hb.trans (hB119.mono hs)
         replace hs := Nat.le_trans hs (hB119.size)
         replace o_cb17 := zB o_cb17 hB119
         replace o_cb20 := zB o_cb20 hB119
         replace o_cb91 := zB o_cb91 hB119
         replace o_cb94 := zB o_cb94 hB119
         replace r_q13 := r_q13.below hB119
         replace r_q87 := r_q87.below hB119
         refine yD .u8 ((atM 0 (wholeF (clsF (s ++ ([10, 35, 32, 64, 109, 105, 115, 115, 105, 110, 103, 58, 32, 48, 48, 48, 48, 46, 46, 49, 48, 70, 70, 70, 70, 59, 32, 65, 78, 10] : List UInt8))).1) (plainF r)).1) 7 ((atM 0 (wholeF (clsF (s ++ ([10, 35, 32, 64, 109, 105, 115, 115, 105, 110, 103, 58, 32, 48, 48, 48, 48, 46, 46, 49, 48, 70, 70, 70, 70, 59, 32, 65, 78, 10] : List UInt8))).1) (plainF r)).1 = 7) rfl (yO ((atM 0 (wholeF (clsF (s ++ ([10, 35, 32, 64, 109, 105, 115, 115, 105, 110, 103, 58, 32, 48, 48, 48, 48, 46, 46, 49, 48, 70, 70, 70, 70, 59, 32, 65, 78, 10] : List UInt8))).1) (plainF r)).1) 7) (by kernel_rfl) (by kernel_rfl) ?_ ?_
         ·intro h121
          replace h121 : (atM 0 (wholeF (clsF (s ++ ([10, 35, 32, 64, 109, 105, 115, 115, 105, 110, 103, 58, 32, 48, 48, 48, 48, 46, 46, 49, 48, 70, 70, 70, 70, 59, 32, 65, 78, 10] : List UInt8))).1) (plainF r)).1 = 7 := by omega
          refine zH (zS (by kernel_rfl) (zH (zS (by kernel_rfl) (zH (zS (by kernel_rfl) (zZ 12 [(.pointer (some ⟨cb91, 0, none⟩)), (.int .i32 r)] (by kernel_rfl) (by kernel_rfl) (c_tClass cb91 cb92 cb93 q84 cb94 r q87 (wholeF (clsF (([35, 32, 64, 109, 105, 115, 115, 105, 110, 103, 58, 32, 48, 48, 48, 48, 46, 46, 49, 48, 70, 70, 70, 70, 59, 32, 65, 78, 10] : List UInt8) ++ s)).1) _ o_cb91 o_cb94 r_q87.rd (by with_reducible exact (whole_ok _).rise)) ?_))))))
          rintro _ w122 ⟨rfl, hB123⟩
          replace hb := hb.trans (hB123.mono hs)
          replace hs := Nat.le_trans hs (hB123.size)
          replace o_cb17 := zB o_cb17 hB123
          replace o_cb20 := zB o_cb20 hB123
          replace o_cb91 := zB o_cb91 hB123
          replace o_cb94 := zB o_cb94 hB123
          replace r_q13 := r_q13.below hB123
          replace r_q87 := r_q87.below hB123
          refine zS (by kernel_rfl) (zH (zS (by kernel_rfl) (zH (zS (by kernel_rfl) (zZ 12 [(.pointer (some ⟨cb17, 0, none⟩)), (.int .i32 r)] (by kernel_rfl) (by kernel_rfl) (c_tClass cb17 cb18 cb19 q10 cb20 r q13 (wholeF (clsF s).1) _ o_cb17 o_cb20 r_q13.rd (by with_reducible exact (whole_ok _).rise)) ?_)))))
          rintro _ w125 ⟨rfl, hB126⟩
          replace hb := hb.trans (hB126.mono hs)
          replace hs := Nat.le_trans hs (hB126.size)
          replace o_cb17 := zB o_cb17 hB126
          replace o_cb20 := zB o_cb20 hB126
          replace o_cb91 := zB o_cb91 hB126
          replace o_cb94 := zB o_cb94 hB126
          replace r_q13 := r_q13.below hB126
          replace r_q87 := r_q87.below hB126
          refine zS (by kernel_rfl) (yD .u8 ((atM 0 (wholeF (clsF (([35, 32, 64, 109, 105, 115, 115, 105, 110, 103, 58, 32, 48, 48, 48, 48, 46, 46, 49, 48, 70, 70, 70, 70, 59, 32, 65, 78, 10] : List UInt8) ++ s)).1) (plainF r)).1) ((atM 0 (wholeF (clsF s).1) (plainF r)).1) ((atM 0 (wholeF (clsF (([35, 32, 64, 109, 105, 115, 115, 105, 110, 103, 58, 32, 48, 48, 48, 48, 46, 46, 49, 48, 70, 70, 70, 70, 59, 32, 65, 78, 10] : List UInt8) ++ s)).1) (plainF r)).1 = (atM 0 (wholeF (clsF s).1) (plainF r)).1) rfl (yO ((atM 0 (wholeF (clsF (([35, 32, 64, 109, 105, 115, 115, 105, 110, 103, 58, 32, 48, 48, 48, 48, 46, 46, 49, 48, 70, 70, 70, 70, 59, 32, 65, 78, 10] : List UInt8) ++ s)).1) (plainF r)).1) ((atM 0 (wholeF (clsF s).1) (plainF r)).1)) (by kernel_rfl) (by kernel_rfl) ?_ ?_)
          ·intro h128
           replace h128 : (atM 0 (wholeF (clsF (([35, 32, 64, 109, 105, 115, 115, 105, 110, 103, 58, 32, 48, 48, 48, 48, 46, 46, 49, 48, 70, 70, 70, 70, 59, 32, 65, 78, 10] : List UInt8) ++ s)).1) (plainF r)).1 = (atM 0 (wholeF (clsF s).1) (plainF r)).1 := by omega
           refine zS (by kernel_rfl) (zH (yC (by kernel_rfl) (yC (by kernel_rfl) (yC (by kernel_rfl) (yC (by kernel_rfl) (yC (by kernel_rfl) (yC (by kernel_rfl) (yC (by kernel_rfl) (yC (by kernel_rfl) (yC (by kernel_rfl) (yC (by kernel_rfl) (zS (by kernel_rfl) (yJ (by kernel_rfl) (yJ (by kernel_rfl) (zJ (zE (zA (zY ?_))))))))))))))))))
           refine zO [.tmp 8] [(.bool true)] rfl hds ⟨by kernel_rfl, trivial⟩ ?_
           have e0 : true = true := by rfl
           exact ⟨congrArg Value.bool e0, hb⟩
          ·intro h129
           replace h129 : (atM 0 (wholeF (clsF (([35, 32, 64, 109, 105, 115, 115, 105, 110, 103, 58, 32, 48, 48, 48, 48, 46, 46, 49, 48, 70, 70, 70, 70, 59, 32, 65, 78, 10] : List UInt8) ++ s)).1) (plainF r)).1 ≠ (atM 0 (wholeF (clsF s).1) (plainF r)).1 := by omega
           refine zS (by kernel_rfl) (zH (zS (by kernel_rfl) (zH (zS (by kernel_rfl) (zH (zS (by kernel_rfl) (zZ 12 [(.pointer (some ⟨cb91, 0, none⟩)), (.int .i32 r)] (by kernel_rfl) (by kernel_rfl) (c_tClass cb91 cb92 cb93 q84 cb94 r q87 (wholeF (clsF (([35, 32, 64, 109, 105, 115, 115, 105, 110, 103, 58, 32, 48, 48, 48, 48, 46, 46, 49, 48, 70, 70, 70, 70, 59, 32, 65, 78, 10] : List UInt8) ++ s)).1) _ o_cb91 o_cb94 r_q87.rd (by with_reducible exact (whole_ok _).rise)) ?_)))))))
           rintro _ w130 ⟨rfl, hB131⟩
           replace hb := hb.trans (hB131.mono hs)
           replace hs := Nat.le_trans hs (hB131.size)
           replace o_cb17 := zB o_cb17 hB131
           replace o_cb20 := zB o_cb20 hB131
           replace r_q13 := r_q13.below hB131
           refine zS (by kernel_rfl) (yD .u8 ((atM 0 (wholeF (clsF (([35, 32, 64, 109, 105, 115, 115, 105, 110, 103, 58, 32, 48, 48, 48, 48, 46, 46, 49, 48, 70, 70, 70, 70, 59, 32, 65, 78, 10] : List UInt8) ++ s)).1) (plainF r)).1) 7 ((atM 0 (wholeF (clsF (([35, 32, 64, 109, 105, 115, 115, 105, 110, 103, 58, 32, 48, 48, 48, 48, 46, 46, 49, 48, 70, 70, 70, 70, 59, 32, 65, 78, 10] : List UInt8) ++ s)).1) (plainF r)).1 = 7) rfl (yO ((atM 0 (wholeF (clsF (([35, 32, 64, 109, 105, 115, 115, 105, 110, 103, 58, 32, 48, 48, 48, 48, 46, 46, 49, 48, 70, 70, 70, 70, 59, 32, 65, 78, 10] : List UInt8) ++ s)).1) (plainF r)).1) 7) (by kernel_rfl) (by kernel_rfl) ?_ ?_)
           ·intro h133
            replace h133 : (atM 0 (wholeF (clsF (([35, 32, 64, 109, 105, 115, 115, 105, 110, 103, 58, 32, 48, 48, 48, 48, 46, 46, 49, 48, 70, 70, 70, 70, 59, 32, 65, 78, 10] : List UInt8) ++ s)).1) (plainF r)).1 = 7 := by omega
            refine zS (by kernel_rfl) (zH (zS (by kernel_rfl) (zH (zS (by kernel_rfl) (zH (zS (by kernel_rfl) (zZ 12 [(.pointer (some ⟨cb17, 0, none⟩)), (.int .i32 r)] (by kernel_rfl) (by kernel_rfl) (c_tClass cb17 cb18 cb19 q10 cb20 r q13 (wholeF (clsF s).1) _ o_cb17 o_cb20 r_q13.rd (by with_reducible exact (whole_ok _).rise)) ?_)))))))
            rintro _ w134 ⟨rfl, hB135⟩
            replace hb := hb.trans (hB135.mono hs)
            replace hs := Nat.le_trans hs (hB135.size)
            refine zS (by kernel_rfl) (yD .u8 ((atM 0 (wholeF (clsF s).1) (plainF r)).1) 1 ((atM 0 (wholeF (clsF s).1) (plainF r)).1 = 1) rfl (yO ((atM 0 (wholeF (clsF s).1) (plainF r)).1) 1) (by kernel_rfl) (by kernel_rfl) ?_ ?_)
            ·intro h137
             replace h137 : (atM 0 (wholeF (clsF s).1) (plainF r)).1 = 1 := by omega
             refine zS (by kernel_rfl) (yJ (by kernel_rfl) (zS (by kernel_rfl) (yM (by kernel_rfl) (yJ (by kernel_rfl) (zJ (zE (zA (zY ?_))))))))
             refine zO [.tmp 8] [(.bool true)] rfl hds ⟨by kernel_rfl, trivial⟩ ?_
             have e0 : true = true := by rfl
             exact ⟨congrArg Value.bool e0, hb⟩
            ·intro h138
             replace h138 : (atM 0 (wholeF (clsF s).1) (plainF r)).1 ≠ 1 := by omega
             refine zS (by kernel_rfl) (yJ (by kernel_rfl) (zS (by kernel_rfl) (yM (by kernel_rfl) (yJ (by kernel_rfl) (zJ (zE (zA (zY ?_))))))))
             refine zO [.tmp 8] [(.bool false)] rfl hds ⟨by kernel_rfl, trivial⟩ ?_
             have e0 : false = true := by (exfalso; rcases v_not (r := r) mk (by with_reducible assumption) (by with_reducible assumption) with hv | hv <;> first | exact absurd hv (by assumption) | exact absurd hv.1 (by assumption) | exact absurd hv.2 (by assumption))
             exact ⟨congrArg Value.bool e0, hb⟩
           ·intro h139
            replace h139 : (atM 0 (wholeF (clsF (([35, 32, 64, 109, 105, 115, 115, 105, 110, 103, 58, 32, 48, 48, 48, 48, 46, 46, 49, 48, 70, 70, 70, 70, 59, 32, 65, 78, 10] : List UInt8) ++ s)).1) (plainF r)).1 ≠ 7 := by omega
            refine zS (by kernel_rfl) (zH (yC (by kernel_rfl) (yC (by kernel_rfl) (yC (by kernel_rfl) (yC (by kernel_rfl) (zS (by kernel_rfl) (yM (by kernel_rfl) (zS (by kernel_rfl) (yM (by kernel_rfl) (yJ (by kernel_rfl) (zJ (zE (zA (zY ?_))))))))))))))
            refine zO [.tmp 8] [(.bool false)] rfl hds ⟨by kernel_rfl, trivial⟩ ?_
            have e0 : false = true := by (exfalso; rcases v_not (r := r) mk (by with_reducible assumption) (by with_reducible assumption) with hv | hv <;> first | exact absurd hv (by assumption) | exact absurd hv.1 (by assumption) | exact absurd hv.2 (by assumption))
            exact ⟨congrArg Value.bool e0, hb⟩
         ·intro h140
          replace h140 : (atM 0 (wholeF (clsF (s ++ ([10, 35, 32, 64, 109, 105, 115, 115, 105, 110, 103, 58, 32, 48, 48, 48, 48, 46, 46, 49, 48, 70, 70, 70, 70, 59, 32, 65, 78, 10] : List UInt8))).1) (plainF r)).1 ≠ 7 := by omega
          exfalso; exact h140 (w_not mk (by with_reducible assumption) (by with_reducible assumption))
       ·skip
        exfalso; exact hq95 (congrArg (fun t => t.2.2) (n_w mk hq9))
      ·skip
       exfalso; exact hq83 ((n_v mk).1.2 hq9)
    ·skip
     exfalso; exact hq27 ((n_u mk).1.2 hq9)
  ·skip
   refine zZ 10 [(S ([120] : List UInt8)), (S s)] (by kernel_rfl) (by kernel_rfl) (c_classes_Read_bad ([120] : List UInt8) s _ (gcell_below hml hb) (by omega) (by with_reducible assumption)) ?_
   rintro _ w141 ⟨cb144, rfl, o_cb144, g_cb144, hB142⟩
   replace g_cb144 := Nat.le_trans hs g_cb144
   replace hb := hb.trans (hB142.mono hs)
   replace hs := Nat.le_trans hs (hB142.size)
   refine zH (zP (.pointer none) (by kernel_rfl) (by kernel_rfl) (zP (.iface 73 (.pointer (some ⟨cb144, 0, none⟩))) (by kernel_rfl) (by kernel_rfl) (zJ (zJ (zE (zA ?_))))))
   refine W_cut (fun s0 w0 => (s0.ds = []) ∧ (s0.f 0 = (S s)) ∧ (s0.f 3 = (.int .i32 r)) ∧ (s0.f 9 = (.pointer none)) ∧ (s0.f 10 = (.iface 73 (.pointer (some ⟨cb144, 0, none⟩)))) ∧ (w0.heap[cb144]? = some (.cells [(S ([120] : List UInt8)), (.int .i64 ((clsF s).2.1)), (.int .i64 ((clsF s).2.2))].toArray 75 (0, 0))) ∧ (Below w.heap.size w w0) ∧ (w.heap.size ≤ w0.heap.size) ∧ (markN s = 0)) ?_ ?_
   ·refine zF (zD (zH (L_slen 9 s rfl Tryz.underlying9 (by kernel_rfl) (yD .i64 (((s).length : Nat) : Int) ((3 : Nat) : Int) (3 ≤ (s).length) rfl (cmpN_ge ((s).length) 3) (by kernel_rfl) (by kernel_rfl) ?_ ?_))))
    ·intro h145
     replace h145 : 3 ≤ (s).length := by omega
     refine zH (zS (by kernel_rfl) (zH (zS (by kernel_rfl) (L_ssto s 3 Tryz.underlying9 (by kernel_rfl) ⟨.i64, by kernel_rfl⟩ (by omega) (zS (by kernel_rfl) (L_seq (List.take 3 s) ([239, 187, 191] : List UInt8) rfl (by kernel_rfl) (by kernel_rfl) ?_ ?_))))))
     ·intro h146
      refine yJ (by kernel_rfl) (zE (zA (zT (by kernel_rfl) (zF (zD (zJ (zE (zA (zY (zK ?_))))))))))
      refine zO [.tmp 8] [(.bool true)] rfl rfl ⟨by kernel_rfl, trivial⟩ ?_
      have e0 : true = true := by rfl
      exact ⟨congrArg Value.bool e0, hb⟩
     ·intro h147
      have mk := mark_none3 (Or.inr h147)
      refine yJ (by kernel_rfl) (zE (zA (zN (by kernel_rfl) (zW ?_))))
      refine zA ⟨rfl, by kernel_rfl, by kernel_rfl, by kernel_rfl, by kernel_rfl, o_cb144, hb, hs, ?_⟩
      exact mk
    ·intro h148
     replace h148 : (s).length < 3 := by omega
     have mk := mark_none3 (Or.inl h148)
     refine zH (yC (by kernel_rfl) (yC (by kernel_rfl) (yC (by kernel_rfl) (yM (by kernel_rfl) (zE (zA (zN (by kernel_rfl) (zW ?_))))))))
     refine zA ⟨rfl, by kernel_rfl, by kernel_rfl, by kernel_rfl, by kernel_rfl, o_cb144, hb, hs, ?_⟩
     exact mk
   ·rintro s149 w150 ⟨hds, f_0, f_3, f_9, f_10, o_cb144, hb, hs, mk⟩
    refine yH 0 _ f_0 (yH 3 _ f_3 (yH 9 _ f_9 (yH 10 _ f_10 ?_)))
    clear f_0 f_3 f_9 f_10
    refine zF (zD (zH (L_sadd ([35, 32, 97, 32, 110, 111, 116, 101, 10, 10] : List UInt8) s (by (simp only [List.length_append, List.length_cons, List.length_nil]; omega)) (by kernel_rfl) (by kernel_rfl) ?_)))
    by_cases hq151 : (clsF (([35, 32, 97, 32, 110, 111, 116, 101, 10, 10] : List UInt8) ++ s)).2.2 = 0
    ·skip
     exfalso; exact hq9 ((n_u mk).1.1 hq151)
    ·skip
     refine zZ 10 [(S ([120] : List UInt8)), (S (([35, 32, 97, 32, 110, 111, 116, 101, 10, 10] : List UInt8) ++ s))] (by kernel_rfl) (by kernel_rfl) (c_classes_Read_bad ([120] : List UInt8) (([35, 32, 97, 32, 110, 111, 116, 101, 10, 10] : List UInt8) ++ s) _ (gcell_below hml hb) (by (simp; omega)) (by with_reducible assumption)) ?_
     rintro _ w152 ⟨cb155, rfl, o_cb155, g_cb155, hB153⟩
     replace g_cb155 := Nat.le_trans hs g_cb155
     replace hb := hb.trans (hB153.mono hs)
     replace hs := Nat.le_trans hs (hB153.size)
     refine zH (zP (.pointer none) (by kernel_rfl) (by kernel_rfl) (zP (.iface 73 (.pointer (some ⟨cb155, 0, none⟩))) (by kernel_rfl) (by kernel_rfl) (zJ (zJ (zE (zA (zF (zF (W_quiet (by kernel_rfl) (by kernel_rfl) (yF (yL (.bool false) (fun _ => by kernel_rfl) (yF (yL (.bool false) (fun _ => by kernel_rfl) (yL (.bool false) (fun _ => by kernel_rfl) (xA ?_)))))))))))))))
     intro w156 hB157
     replace hb := hb.trans (hB157.mono hs)
     replace hs := Nat.le_trans hs (hB157.size)
     refine zA (zN (by kernel_rfl) (zW (zA (zF (zF (zD (zH (zP (.bool true) (by kernel_rfl) (by kernel_rfl) (zE (zA (zT (by kernel_rfl) (zF (zD (zH (zP (.bool true) (by kernel_rfl) (by kernel_rfl) (zH (zS (by kernel_rfl) (zH (zS (by kernel_rfl) (zP (.bool true) (by kernel_rfl) (by kernel_rfl) (yJ (by kernel_rfl) (zJ (zE (zA (zY (zK ?_))))))))))))))))))))))))))
     refine zO [.tmp 8] [(.bool true)] rfl hds ⟨by kernel_rfl, trivial⟩ ?_
     have e0 : true = true := by rfl
     exact ⟨congrArg Value.bool e0, hb⟩
end Go.Proofs.YtkclikfejmeblaaGreatDoor
end
