/- Joined by my program pack.py out of my own texts: Wlscan Wlread Wccor FKad FKae. -/
import Derived.Test.YtkclikfejmeblaaGreatDoorProg
import Derived.Tactics2
import Derived.Laws.CopyRow
import Derived.Lib.Overlaps
import Derived.Lib.AppendZerosOnto
import Derived.Test.YtkclikfejmeblaaGreatDoorQ1
import Derived.Test.YtkclikfejmeblaaGreatDoorQ2
set_option linter.unusedVariables false
set_option linter.unusedSimpArgs false
/- === Wlscan === -/
section
/- Walks, written by my program walk.py out of the specification lscan.py: each theorem says what one function returns and that it leaves memory as it was. -/
namespace Go.Proofs.YtkclikfejmeblaaGreatDoor
open Go Go.RowKit Go.FK
set_option maxHeartbeats 4000000
set_option maxRecDepth 100000
set_option linter.unusedVariables false
set_option linter.unusedSimpArgs false
theorem c_lines_Scan (no : Int) (s : List UInt8) (w : World) (hs : s.length ≤ 1073741824) :
  Calls Tryz.prog 59 #[(.int .i64 no), (S s)] w (Ret fun v w' => ∃ (q0 : Value), v = (.tuple #[(Value.agg #[(.int .i64 ((scanF no s).1.1)), (.int .u8 ((scanF no s).1.2.1)), (S ((scanF no s).1.2.2.1)), q0, (S ((scanF no s).1.2.2.2.2))]), (.int .i64 ((scanF no s).2))]) ∧ Row w' w.heap.size 9 1 encStr q0 ((scanF no s).1.2.2.2.1) ∧ Below w.heap.size w w') := by
 refine K11 (enter (args := [(.int .i64 no), (S s)]) Tryz.func59 rfl (by kernel_rfl : _ = 84)) ?_
 have hb := Below.refl w.heap.size w
 have hs : w.heap.size ≤ w.heap.size := Nat.le_refl _
 have hnl := cutF_len s
 refine zF (zD (K21 (yW (fun b => .pointer (some ⟨b, 0, none⟩)) (.cells [(.int .i64 0), (.int .u8 0), (S ([] : List UInt8)), (.slice none 0 0), (S ([] : List UInt8))].toArray 72 (0, 0))) ?_))
 intro b1 w2 hN3
 have g_x4 : w.heap.size ≤ b1 := by rw [hN3.num]; exact hs
 replace hb := hb.trans (hN3.below.mono hs)
 replace hs := Nat.le_trans hs (hN3.below.size)
 have o_x4 := hN3.here
 refine zJ (zE (zA (zF (zF (zD (zI (K22 (yA 92 [(S s)]) (c_lines_Check s _ (by omega)) ?_)))))))
 rintro _ w4 ⟨rfl, hB5⟩
 replace hb := hb.trans (hB5.mono hs)
 replace hs := Nat.le_trans hs (hB5.size)
 replace o_x4 := zB o_x4 hB5
 have := chkF_range s
 refine zI (K21 (zQ (.int .i64 (((chkF s).1 : Nat) : Int))) (K21 (zQ (.int .i64 ((chkF s).2))) (zJ (zJ (zE (zA (zF (zD (zI (K22 (yD .i64 ((chkF s).2) 0 ((chkF s).2 ≠ 0) rfl (cmp_ne ((chkF s).2) 0)) ?_ ?_))))))))))
 ·intro h7
  replace h7 : (chkF s).2 ≠ 0 := by omega
  refine zE (zA (K11 zS (zF (zD (K21 (zQ (Value.agg #[(.int .i64 0), (.int .u8 0), (S ([] : List UInt8)), (.slice none 0 0), (S ([] : List UInt8))])) (zI (K26 (yX b1 0 [(.int .i64 0), (.int .u8 0), (S ([] : List UInt8)), (.slice none 0 0), (S ([] : List UInt8))] [(.int .i64 0), (.int .u8 0), (S ([] : List UInt8)), (.slice none 0 0), (S ([] : List UInt8))] [(.int .i64 0), (.int .u8 0), (S ([] : List UInt8)), (.slice none 0 0), (S ([] : List UInt8))] 72) rfl (by kernel_rfl) o_x4 (by kernel_rfl) rfl ?_)))))))
  intro w8 hW9
  replace hb := hb.trans (hW9.below g_x4)
  replace hs := Nat.le_trans hs (Nat.le_of_eq hW9.size.symm)
  replace o_x4 := hW9.here
  refine zJ (zE (zA (zX (zH ?_))))
  refine zO [.cell 4 72, .tmp 5] [(Value.agg #[(.int .i64 0), (.int .u8 0), (S ([] : List UInt8)), (.slice none 0 0), (S ([] : List UInt8))]), (.int .i64 ((chkF s).2))] rfl rfl ⟨⟨⟨b1, 0, none⟩, by kernel_rfl, xN [(.int .i64 0), (.int .u8 0), (S ([] : List UInt8)), (.slice none 0 0), (S ([] : List UInt8))] (by kernel_rfl) (by kernel_rfl) (xH o_x4)⟩, by kernel_rfl, trivial⟩ ?_
  have hE : ((Value.agg #[(.int .i64 0), (.int .u8 0), (S ([] : List UInt8)), (.slice none 0 0), (S ([] : List UInt8))]) = (Value.agg #[(.int .i64 ((scanF no s).1.1)), (.int .u8 ((scanF no s).1.2.1)), (S ((scanF no s).1.2.2.1)), (.slice none 0 0), (S ((scanF no s).1.2.2.2.2))])) ∧ (((chkF s).2 : Int) = (scanF no s).2) ∧ (([] : List (List UInt8)) = (scanF no s).1.2.2.2.1) := ⟨(by (rw [scan_bad (by assumption)]; try rfl; done)), (by (rw [scan_bad (by assumption)]; try rfl; done)), (by (rw [scan_bad (by assumption)]; try rfl; done))⟩
  exact ⟨(.slice none 0 0), xG (hE.1) (congrArg (Value.int .i64) hE.2.1), (Row.nil _ _ _ _ _).cast hE.2.2, hb⟩
 ·intro h10
  replace h10 : (chkF s).2 = 0 := by omega
  refine zE (zA (K11 zN (zV (zA (zF (zD (zI (K21 (zQ (Value.agg #[(.int .i64 no), (.int .u8 0), (S ([] : List UInt8)), (.slice none 0 0), (S ([] : List UInt8))])) (K21 (yW (fun b => .pointer (some ⟨b, 0, none⟩)) (.cells [(.int .i64 0), (.int .u8 0), (S ([] : List UInt8)), (.slice none 0 0), (S ([] : List UInt8))].toArray 72 (0, 0))) ?_)))))))))
  intro b11 w12 hN13
  have ne_x4_x8 : NE b1 b11 := by have := (yR o_x4); have := hN13.num; show _ ≠ _; omega
  have g_x8 : w.heap.size ≤ b11 := by rw [hN13.num]; exact hs
  replace hb := hb.trans (hN13.below.mono hs)
  replace hs := Nat.le_trans hs (hN13.below.size)
  replace o_x4 := zB o_x4 hN13.below
  have o_x8 := hN13.here
  refine K26 (yX b11 0 [(.int .i64 no), (.int .u8 0), (S ([] : List UInt8)), (.slice none 0 0), (S ([] : List UInt8))] [(.int .i64 0), (.int .u8 0), (S ([] : List UInt8)), (.slice none 0 0), (S ([] : List UInt8))] [(.int .i64 no), (.int .u8 0), (S ([] : List UInt8)), (.slice none 0 0), (S ([] : List UInt8))] 72) rfl (by kernel_rfl) o_x8 (by kernel_rfl) rfl ?_
  intro w14 hW15
  replace hb := hb.trans (hW15.below g_x8)
  replace hs := Nat.le_trans hs (Nat.le_of_eq hW15.size.symm)
  replace o_x4 := zL o_x4 hW15 ne_x4_x8
  replace o_x8 := hW15.here
  refine zE (zA (zF (zD (zI (K22 (yA 93 [(S s)]) (c_lines_Cut s _ (by omega)) ?_)))))
  rintro _ w17 ⟨q16, rfl, r_q16, hB18⟩
  replace r_q16 := r_q16.base hs
  replace hb := hb.trans (hB18.mono hs)
  replace hs := Nat.le_trans hs (hB18.size)
  replace o_x4 := zB o_x4 hB18
  replace o_x8 := zB o_x8 hB18
  refine zI (K21 (zQ q16) (K21 (zQ (S ((cutF s).2))) (K21 (zQ (.pointer (some ⟨b11, 3, none⟩))) (K26 (xC b11 3 q16 [(.int .i64 no), (.int .u8 0), (S ([] : List UInt8)), (.slice none 0 0), (S ([] : List UInt8))] [(.int .i64 no), (.int .u8 0), (S ([] : List UInt8)), q16, (S ([] : List UInt8))] 72) r_q16.one (by kernel_rfl) o_x8 (by simp) rfl ?_))))
  intro w20 hW21
  replace hb := hb.trans (hW21.below g_x8)
  replace hs := Nat.le_trans hs (Nat.le_of_eq hW21.size.symm)
  replace o_x4 := zL o_x4 hW21 ne_x4_x8
  replace r_q16 := r_q16.wrote hW21 (r_q16.ne o_x8 (by simp))
  replace o_x8 := hW21.here
  refine K21 (zQ (.pointer (some ⟨b11, 4, none⟩))) (K26 (xC b11 4 (S ((cutF s).2)) [(.int .i64 no), (.int .u8 0), (S ([] : List UInt8)), q16, (S ([] : List UInt8))] [(.int .i64 no), (.int .u8 0), (S ([] : List UInt8)), q16, (S ((cutF s).2))] 72) rfl (by kernel_rfl) o_x8 (by simp) rfl ?_)
  intro w22 hW23
  replace hb := hb.trans (hW23.below g_x8)
  replace hs := Nat.le_trans hs (Nat.le_of_eq hW23.size.symm)
  replace o_x4 := zL o_x4 hW23 ne_x4_x8
  replace r_q16 := r_q16.wrote hW23 (r_q16.ne o_x8 (by simp))
  replace o_x8 := hW23.here
  refine zE (zA (zF (zD (zI (K22 (yA 94 [(S s), (S ([35] : List UInt8))]) (c_strings_Cut s ([35] : List UInt8) _ (by rfl) (by omega)) ?_)))))
  rintro _ w24 ⟨rfl, hB25⟩
  replace hb := hb.trans (hB25.mono hs)
  replace hs := Nat.le_trans hs (hB25.size)
  replace o_x4 := zB o_x4 hB25
  replace o_x8 := zB o_x8 hB25
  replace r_q16 := r_q16.below hB25
  have := cutl_len s ([35] : List UInt8)
  refine zI (K21 (zQ (S ((Lib.cut s ([35] : List UInt8)).1))) (K21 (zQ (S ((Lib.cut s ([35] : List UInt8)).2.1))) (K21 (zQ (.bool ((Lib.cut s ([35] : List UInt8)).2.2))) (xK ((Lib.cut s ([35] : List UInt8)).2.2) ?_ ?_))))
  ·intro h27
   refine zJ (zJ (zJ (zE (zA (zF (zD (zI (K22 (yA 95 [(S ((Lib.cut s ([35] : List UInt8)).1))]) (c_lines_trim ((Lib.cut s ([35] : List UInt8)).1) _ (by omega)) ?_))))))))
   rintro _ w28 ⟨rfl, hB29⟩
   replace hb := hb.trans (hB29.mono hs)
   replace hs := Nat.le_trans hs (hB29.size)
   replace o_x4 := zB o_x4 hB29
   replace o_x8 := zB o_x8 hB29
   replace r_q16 := r_q16.below hB29
   have := trm_len ((Lib.cut s ([35] : List UInt8)).1)
   refine zJ (zE (zA (zF (yP (zF (zD (zI (K22 (yA 96 [(S (trmF ((Lib.cut s ([35] : List UInt8)).1))), (S ([64] : List UInt8))]) (c_strings_HasPrefix (trmF ((Lib.cut s ([35] : List UInt8)).1)) ([64] : List UInt8) _) ?_))))))))
   rintro _ w31 ⟨rfl, hB32⟩
   replace hb := hb.trans (hB32.mono hs)
   replace hs := Nat.le_trans hs (hB32.size)
   replace o_x4 := zB o_x4 hB32
   replace o_x8 := zB o_x8 hB32
   replace r_q16 := r_q16.below hB32
   refine xK (hpB (trmF ((Lib.cut s ([35] : List UInt8)).1)) ([64] : List UInt8)) ?_ ?_
   ·intro h34
    have := hp_len h34; simp only [List.length_cons, List.length_nil] at this
    refine zJ (zE (zA (K11 zS (zF (zD (zI (K13 (L_ssfrom (trmF ((Lib.cut s ([35] : List UInt8)).1)) 1 Tryz.underlying9) ⟨.i64, by kernel_rfl⟩ (by omega) (K22 (yA 94 [(S (List.drop 1 (trmF ((Lib.cut s ([35] : List UInt8)).1)))), (S ([58] : List UInt8))]) (c_strings_Cut (List.drop 1 (trmF ((Lib.cut s ([35] : List UInt8)).1))) ([58] : List UInt8) _ (by rfl) (by (simp only [List.length_drop, List.length_take] at *; omega))) ?_))))))))
    rintro _ w35 ⟨rfl, hB36⟩
    replace hb := hb.trans (hB36.mono hs)
    replace hs := Nat.le_trans hs (hB36.size)
    replace o_x4 := zB o_x4 hB36
    replace o_x8 := zB o_x8 hB36
    have := cutl_len (List.drop 1 (trmF ((Lib.cut s ([35] : List UInt8)).1))) ([58] : List UInt8)
    refine zI (K21 (zQ (S ((Lib.cut (List.drop 1 (trmF ((Lib.cut s ([35] : List UInt8)).1))) ([58] : List UInt8)).1))) (K21 (zQ (S ((Lib.cut (List.drop 1 (trmF ((Lib.cut s ([35] : List UInt8)).1))) ([58] : List UInt8)).2.1))) (K21 (zQ (.bool ((Lib.cut (List.drop 1 (trmF ((Lib.cut s ([35] : List UInt8)).1))) ([58] : List UInt8)).2.2))) (xK ((Lib.cut (List.drop 1 (trmF ((Lib.cut s ([35] : List UInt8)).1))) ([58] : List UInt8)).2.2) ?_ ?_))))
    ·intro h38
     refine zJ (zJ (zJ (zE (zA (zF (zF (zD (zI (K11 (L_not true) (zI (K11 zY (zI (K11 zY (K22 (yA 97 [(S ((Lib.cut (List.drop 1 (trmF ((Lib.cut s ([35] : List UInt8)).1))) ([58] : List UInt8)).1))]) (c_lines_named ((Lib.cut (List.drop 1 (trmF ((Lib.cut s ([35] : List UInt8)).1))) ([58] : List UInt8)).1) _ (by (simp only [List.length_drop, List.length_take] at *; omega))) ?_))))))))))))))
     rintro _ w39 ⟨rfl, hB40⟩
     replace hb := hb.trans (hB40.mono hs)
     replace hs := Nat.le_trans hs (hB40.size)
     replace o_x4 := zB o_x4 hB40
     replace o_x8 := zB o_x8 hB40
     refine xK (nameF ((Lib.cut (List.drop 1 (trmF ((Lib.cut s ([35] : List UInt8)).1))) ([58] : List UInt8)).1)) ?_ ?_
     ·intro h42
      refine K11 zY (K11 (L_not true) (K11 yV (zE (zA (K11 zN (zV (zA (zD (zI (zI (K22 (yA 98 [(S ((Lib.cut (List.drop 1 (trmF ((Lib.cut s ([35] : List UInt8)).1))) ([58] : List UInt8)).2.1))]) (c_lines_fields ((Lib.cut (List.drop 1 (trmF ((Lib.cut s ([35] : List UInt8)).1))) ([58] : List UInt8)).2.1) _ (by (simp only [List.length_drop, List.length_take] at *; omega))) ?_)))))))))))
      rintro q43 w44 ⟨_, rfl, r_q43, hB45⟩
      replace r_q43 := r_q43.base hs
      replace hb := hb.trans (hB45.mono hs)
      replace hs := Nat.le_trans hs (hB45.size)
      replace o_x4 := zB o_x4 hB45
      replace o_x8 := zB o_x8 hB45
      refine K21 (zQ (.pointer (some ⟨b11, 1, none⟩))) (K26 (xC b11 1 (.int .u8 2) [(.int .i64 no), (.int .u8 0), (S ([] : List UInt8)), q16, (S ((cutF s).2))] [(.int .i64 no), (.int .u8 2), (S ([] : List UInt8)), q16, (S ((cutF s).2))] 72) rfl (by kernel_rfl) o_x8 (by simp) rfl ?_)
      intro w47 hW48
      replace hb := hb.trans (hW48.below g_x8)
      replace hs := Nat.le_trans hs (Nat.le_of_eq hW48.size.symm)
      replace o_x4 := zL o_x4 hW48 ne_x4_x8
      replace r_q43 := r_q43.wrote hW48 (r_q43.ne o_x8 (by simp))
      replace o_x8 := hW48.here
      refine K21 (zQ (.pointer (some ⟨b11, 2, none⟩))) (K26 (xC b11 2 (S ((Lib.cut (List.drop 1 (trmF ((Lib.cut s ([35] : List UInt8)).1))) ([58] : List UInt8)).1)) [(.int .i64 no), (.int .u8 2), (S ([] : List UInt8)), q16, (S ((cutF s).2))] [(.int .i64 no), (.int .u8 2), (S ((Lib.cut (List.drop 1 (trmF ((Lib.cut s ([35] : List UInt8)).1))) ([58] : List UInt8)).1)), q16, (S ((cutF s).2))] 72) rfl (by kernel_rfl) o_x8 (by simp) rfl ?_)
      intro w49 hW50
      replace hb := hb.trans (hW50.below g_x8)
      replace hs := Nat.le_trans hs (Nat.le_of_eq hW50.size.symm)
      replace o_x4 := zL o_x4 hW50 ne_x4_x8
      replace r_q43 := r_q43.wrote hW50 (r_q43.ne o_x8 (by simp))
      replace o_x8 := hW50.here
      refine K21 (zQ (.pointer (some ⟨b11, 3, none⟩))) (K26 (xC b11 3 q43 [(.int .i64 no), (.int .u8 2), (S ((Lib.cut (List.drop 1 (trmF ((Lib.cut s ([35] : List UInt8)).1))) ([58] : List UInt8)).1)), q16, (S ((cutF s).2))] [(.int .i64 no), (.int .u8 2), (S ((Lib.cut (List.drop 1 (trmF ((Lib.cut s ([35] : List UInt8)).1))) ([58] : List UInt8)).1)), q43, (S ((cutF s).2))] 72) r_q43.one (by kernel_rfl) o_x8 (by simp) rfl ?_)
      intro w51 hW52
      replace hb := hb.trans (hW52.below g_x8)
      replace hs := Nat.le_trans hs (Nat.le_of_eq hW52.size.symm)
      replace o_x4 := zL o_x4 hW52 ne_x4_x8
      replace r_q43 := r_q43.wrote hW52 (r_q43.ne o_x8 (by simp))
      replace o_x8 := hW52.here
      refine zE (zP (zA (zF (zD (K32 (yH b11 0 [(.int .i64 no), (.int .u8 2), (S ((Lib.cut (List.drop 1 (trmF ((Lib.cut s ([35] : List UInt8)).1))) ([58] : List UInt8)).1)), q43, (S ((cutF s).2))]) (K10 (yN o_x8 0)) (K26 (yX b1 0 [(.int .i64 no), (.int .u8 2), (S ((Lib.cut (List.drop 1 (trmF ((Lib.cut s ([35] : List UInt8)).1))) ([58] : List UInt8)).1)), q43, (S ((cutF s).2))] [(.int .i64 0), (.int .u8 0), (S ([] : List UInt8)), (.slice none 0 0), (S ([] : List UInt8))] [(.int .i64 no), (.int .u8 2), (S ((Lib.cut (List.drop 1 (trmF ((Lib.cut s ([35] : List UInt8)).1))) ([58] : List UInt8)).1)), q43, (S ((cutF s).2))] 72) (allc rfl (allc rfl (allc rfl (allc r_q43.one (allc rfl rfl))))) (by kernel_rfl) o_x4 (by kernel_rfl) rfl ?_))))))
      intro w53 hW54
      replace hb := hb.trans (hW54.below g_x4)
      replace hs := Nat.le_trans hs (Nat.le_of_eq hW54.size.symm)
      replace r_q43 := r_q43.wrote hW54 (r_q43.ne o_x4 (by simp))
      replace o_x4 := hW54.here
      refine zJ (zE (zA (zX ?_)))
      refine zO [.cell 4 72, .tmp 5] [(Value.agg #[(.int .i64 no), (.int .u8 2), (S ((Lib.cut (List.drop 1 (trmF ((Lib.cut s ([35] : List UInt8)).1))) ([58] : List UInt8)).1)), q43, (S ((cutF s).2))]), (.int .i64 0)] rfl rfl ⟨⟨⟨b1, 0, none⟩, by kernel_rfl, xN [(.int .i64 no), (.int .u8 2), (S ((Lib.cut (List.drop 1 (trmF ((Lib.cut s ([35] : List UInt8)).1))) ([58] : List UInt8)).1)), q43, (S ((cutF s).2))] (by kernel_rfl) (by kernel_rfl) (xH o_x4)⟩, by kernel_rfl, trivial⟩ ?_
      have hE : ((Value.agg #[(.int .i64 no), (.int .u8 2), (S ((Lib.cut (List.drop 1 (trmF ((Lib.cut s ([35] : List UInt8)).1))) ([58] : List UInt8)).1)), q43, (S ((cutF s).2))]) = (Value.agg #[(.int .i64 ((scanF no s).1.1)), (.int .u8 ((scanF no s).1.2.1)), (S ((scanF no s).1.2.2.1)), q43, (S ((scanF no s).1.2.2.2.2))])) ∧ ((0 : Int) = (scanF no s).2) ∧ (fieldsF ((Lib.cut (List.drop 1 (trmF ((Lib.cut s ([35] : List UInt8)).1))) ([58] : List UInt8)).2.1) = (scanF no s).1.2.2.2.1) := ⟨(by (rw [scan_order (by assumption) (by assumption) (by assumption) (by assumption)]; try rfl; done)), (by (rw [scan_order (by assumption) (by assumption) (by assumption) (by assumption)]; try rfl; done)), (by (rw [scan_order (by assumption) (by assumption) (by assumption) (by assumption)]; try rfl; done))⟩
      exact ⟨q43, xG (hE.1) (congrArg (Value.int .i64) hE.2.1), r_q43.cast hE.2.2, hb⟩
     ·intro h55
      refine K11 zY (K11 (L_not false) (K11 yV (zE (zA (K11 zS (zF (zD (K21 (zQ (Value.agg #[(.int .i64 0), (.int .u8 0), (S ([] : List UInt8)), (.slice none 0 0), (S ([] : List UInt8))])) (K26 (yX b1 0 [(.int .i64 0), (.int .u8 0), (S ([] : List UInt8)), (.slice none 0 0), (S ([] : List UInt8))] [(.int .i64 0), (.int .u8 0), (S ([] : List UInt8)), (.slice none 0 0), (S ([] : List UInt8))] [(.int .i64 0), (.int .u8 0), (S ([] : List UInt8)), (.slice none 0 0), (S ([] : List UInt8))] 72) rfl (by kernel_rfl) o_x4 (by kernel_rfl) rfl ?_)))))))))
      intro w56 hW57
      replace hb := hb.trans (hW57.below g_x4)
      replace hs := Nat.le_trans hs (Nat.le_of_eq hW57.size.symm)
      replace o_x4 := hW57.here
      refine zJ (zE (zA (zX (zH (zU (zH ?_))))))
      refine zO [.cell 4 72, .tmp 5] [(Value.agg #[(.int .i64 0), (.int .u8 0), (S ([] : List UInt8)), (.slice none 0 0), (S ([] : List UInt8))]), (.int .i64 33)] rfl rfl ⟨⟨⟨b1, 0, none⟩, by kernel_rfl, xN [(.int .i64 0), (.int .u8 0), (S ([] : List UInt8)), (.slice none 0 0), (S ([] : List UInt8))] (by kernel_rfl) (by kernel_rfl) (xH o_x4)⟩, by kernel_rfl, trivial⟩ ?_
      have hE : ((Value.agg #[(.int .i64 0), (.int .u8 0), (S ([] : List UInt8)), (.slice none 0 0), (S ([] : List UInt8))]) = (Value.agg #[(.int .i64 ((scanF no s).1.1)), (.int .u8 ((scanF no s).1.2.1)), (S ((scanF no s).1.2.2.1)), (.slice none 0 0), (S ((scanF no s).1.2.2.2.2))])) ∧ ((33 : Int) = (scanF no s).2) ∧ (([] : List (List UInt8)) = (scanF no s).1.2.2.2.1) := ⟨(by (rw [scan_unnamed (by assumption) (by assumption) (.inr (by assumption))]; try rfl; done)), (by (rw [scan_unnamed (by assumption) (by assumption) (.inr (by assumption))]; try rfl; done)), (by (rw [scan_unnamed (by assumption) (by assumption) (.inr (by assumption))]; try rfl; done))⟩
      exact ⟨(.slice none 0 0), xG (hE.1) (congrArg (Value.int .i64) hE.2.1), (Row.nil _ _ _ _ _).cast hE.2.2, hb⟩
    ·intro h58
     refine zJ (zJ (zJ (zE (zA (zF (zF (zD (zI (K11 (L_not false) (zI (K11 yC (K11 yC (K11 yC (K11 yU (zE (zA (K11 zS (zF (zD (K21 (zQ (Value.agg #[(.int .i64 0), (.int .u8 0), (S ([] : List UInt8)), (.slice none 0 0), (S ([] : List UInt8))])) (K26 (yX b1 0 [(.int .i64 0), (.int .u8 0), (S ([] : List UInt8)), (.slice none 0 0), (S ([] : List UInt8))] [(.int .i64 0), (.int .u8 0), (S ([] : List UInt8)), (.slice none 0 0), (S ([] : List UInt8))] [(.int .i64 0), (.int .u8 0), (S ([] : List UInt8)), (.slice none 0 0), (S ([] : List UInt8))] 72) rfl (by kernel_rfl) o_x4 (by kernel_rfl) rfl ?_)))))))))))))))))))))
     intro w59 hW60
     replace hb := hb.trans (hW60.below g_x4)
     replace hs := Nat.le_trans hs (Nat.le_of_eq hW60.size.symm)
     replace o_x4 := hW60.here
     refine zJ (zE (zA (zX (zH (zU (zH ?_))))))
     refine zO [.cell 4 72, .tmp 5] [(Value.agg #[(.int .i64 0), (.int .u8 0), (S ([] : List UInt8)), (.slice none 0 0), (S ([] : List UInt8))]), (.int .i64 33)] rfl rfl ⟨⟨⟨b1, 0, none⟩, by kernel_rfl, xN [(.int .i64 0), (.int .u8 0), (S ([] : List UInt8)), (.slice none 0 0), (S ([] : List UInt8))] (by kernel_rfl) (by kernel_rfl) (xH o_x4)⟩, by kernel_rfl, trivial⟩ ?_
     have hE : ((Value.agg #[(.int .i64 0), (.int .u8 0), (S ([] : List UInt8)), (.slice none 0 0), (S ([] : List UInt8))]) = (Value.agg #[(.int .i64 ((scanF no s).1.1)), (.int .u8 ((scanF no s).1.2.1)), (S ((scanF no s).1.2.2.1)), (.slice none 0 0), (S ((scanF no s).1.2.2.2.2))])) ∧ ((33 : Int) = (scanF no s).2) ∧ (([] : List (List UInt8)) = (scanF no s).1.2.2.2.1) := ⟨(by (rw [scan_unnamed (by assumption) (by assumption) (.inl (by assumption))]; try rfl; done)), (by (rw [scan_unnamed (by assumption) (by assumption) (.inl (by assumption))]; try rfl; done)), (by (rw [scan_unnamed (by assumption) (by assumption) (.inl (by assumption))]; try rfl; done))⟩
     exact ⟨(.slice none 0 0), xG (hE.1) (congrArg (Value.int .i64) hE.2.1), (Row.nil _ _ _ _ _).cast hE.2.2, hb⟩
   ·intro h61
    refine zJ (zE (zA (K11 zN (zF (zD (zI (K22 (L_sne (trmF ((Lib.cut s ([35] : List UInt8)).1)) ([] : List UInt8) rfl) ?_ ?_)))))))
    ·intro h62
     refine zJ (zE (zA (K11 zS (zD (K21 (zQ (.pointer (some ⟨b11, 1, none⟩))) (K26 (xC b11 1 (.int .u8 1) [(.int .i64 no), (.int .u8 0), (S ([] : List UInt8)), q16, (S ((cutF s).2))] [(.int .i64 no), (.int .u8 1), (S ([] : List UInt8)), q16, (S ((cutF s).2))] 72) rfl (by kernel_rfl) o_x8 (by simp) rfl ?_))))))
     intro w63 hW64
     replace hb := hb.trans (hW64.below g_x8)
     replace hs := Nat.le_trans hs (Nat.le_of_eq hW64.size.symm)
     replace o_x4 := zL o_x4 hW64 ne_x4_x8
     replace r_q16 := r_q16.wrote hW64 (r_q16.ne o_x8 (by simp))
     replace o_x8 := hW64.here
     refine zE (zP (zA (zF (zD (K32 (yH b11 0 [(.int .i64 no), (.int .u8 1), (S ([] : List UInt8)), q16, (S ((cutF s).2))]) (K10 (yN o_x8 0)) (K26 (yX b1 0 [(.int .i64 no), (.int .u8 1), (S ([] : List UInt8)), q16, (S ((cutF s).2))] [(.int .i64 0), (.int .u8 0), (S ([] : List UInt8)), (.slice none 0 0), (S ([] : List UInt8))] [(.int .i64 no), (.int .u8 1), (S ([] : List UInt8)), q16, (S ((cutF s).2))] 72) (allc rfl (allc rfl (allc rfl (allc r_q16.one (allc rfl rfl))))) (by kernel_rfl) o_x4 (by kernel_rfl) rfl ?_))))))
     intro w65 hW66
     replace hb := hb.trans (hW66.below g_x4)
     replace hs := Nat.le_trans hs (Nat.le_of_eq hW66.size.symm)
     replace r_q16 := r_q16.wrote hW66 (r_q16.ne o_x4 (by simp))
     replace o_x4 := hW66.here
     refine zJ (zE (zA (zX ?_)))
     refine zO [.cell 4 72, .tmp 5] [(Value.agg #[(.int .i64 no), (.int .u8 1), (S ([] : List UInt8)), q16, (S ((cutF s).2))]), (.int .i64 0)] rfl rfl ⟨⟨⟨b1, 0, none⟩, by kernel_rfl, xN [(.int .i64 no), (.int .u8 1), (S ([] : List UInt8)), q16, (S ((cutF s).2))] (by kernel_rfl) (by kernel_rfl) (xH o_x4)⟩, by kernel_rfl, trivial⟩ ?_
     have hE : ((Value.agg #[(.int .i64 no), (.int .u8 1), (S ([] : List UInt8)), q16, (S ((cutF s).2))]) = (Value.agg #[(.int .i64 ((scanF no s).1.1)), (.int .u8 ((scanF no s).1.2.1)), (S ((scanF no s).1.2.2.1)), q16, (S ((scanF no s).1.2.2.2.2))])) ∧ ((0 : Int) = (scanF no s).2) ∧ ((cutF s).1 = (scanF no s).1.2.2.2.1) := ⟨(by (rw [scan_data (by assumption) (by assumption) (by assumption)]; try rfl; done)), (by (rw [scan_data (by assumption) (by assumption) (by assumption)]; try rfl; done)), (by (rw [scan_data (by assumption) (by assumption) (by assumption)]; try rfl; done))⟩
     exact ⟨q16, xG (hE.1) (congrArg (Value.int .i64) hE.2.1), r_q16.cast hE.2.2, hb⟩
    ·intro h67
     refine zJ (zE (zA (K11 zN (zF (zD (K21 (zQ (.pointer (some ⟨b11, 4, none⟩))) (K22 (zZ b11 4 (S ((cutF s).2))) (zM o_x8 rfl) (K22 (yA 96 [(S ((cutF s).2)), (S ([64, 109, 105, 115, 115, 105, 110, 103, 58] : List UInt8))]) (c_strings_HasPrefix ((cutF s).2) ([64, 109, 105, 115, 115, 105, 110, 103, 58] : List UInt8) _) ?_))))))))
     rintro _ w68 ⟨rfl, hB69⟩
     replace hb := hb.trans (hB69.mono hs)
     replace hs := Nat.le_trans hs (hB69.size)
     replace o_x4 := zB o_x4 hB69
     replace o_x8 := zB o_x8 hB69
     replace r_q16 := r_q16.below hB69
     refine xK (hpB ((cutF s).2) ([64, 109, 105, 115, 115, 105, 110, 103, 58] : List UInt8)) ?_ ?_
     ·intro h71
      have := hp_len h71; simp only [List.length_cons, List.length_nil] at this
      refine zJ (zE (zA (K11 zS (zF (zD (K21 (zQ (.pointer (some ⟨b11, 1, none⟩))) (K26 (xC b11 1 (.int .u8 3) [(.int .i64 no), (.int .u8 0), (S ([] : List UInt8)), q16, (S ((cutF s).2))] [(.int .i64 no), (.int .u8 3), (S ([] : List UInt8)), q16, (S ((cutF s).2))] 72) rfl (by kernel_rfl) o_x8 (by simp) rfl ?_)))))))
      intro w72 hW73
      replace hb := hb.trans (hW73.below g_x8)
      replace hs := Nat.le_trans hs (Nat.le_of_eq hW73.size.symm)
      replace o_x4 := zL o_x4 hW73 ne_x4_x8
      replace o_x8 := hW73.here
      refine zE (zA (zD (K21 (zQ (.pointer (some ⟨b11, 4, none⟩))) (K22 (zZ b11 4 (S ((cutF s).2))) (zM o_x8 rfl) (K13 (L_ssfrom ((cutF s).2) 9 Tryz.underlying9) ⟨.i64, by kernel_rfl⟩ (by omega) (K22 (yA 93 [(S (List.drop 9 ((cutF s).2)))]) (c_lines_Cut (List.drop 9 ((cutF s).2)) _ (by (simp only [List.length_drop, List.length_take] at *; omega))) ?_))))))
      rintro _ w75 ⟨q74, rfl, r_q74, hB76⟩
      replace r_q74 := r_q74.base hs
      replace hb := hb.trans (hB76.mono hs)
      replace hs := Nat.le_trans hs (hB76.size)
      replace o_x4 := zB o_x4 hB76
      replace o_x8 := zB o_x8 hB76
      refine zI (K21 (zQ q74) (K21 (zQ (S ((cutF (List.drop 9 ((cutF s).2))).2))) (K21 (zQ (.pointer (some ⟨b11, 3, none⟩))) (K26 (xC b11 3 q74 [(.int .i64 no), (.int .u8 3), (S ([] : List UInt8)), q16, (S ((cutF s).2))] [(.int .i64 no), (.int .u8 3), (S ([] : List UInt8)), q74, (S ((cutF s).2))] 72) r_q74.one (by kernel_rfl) o_x8 (by simp) rfl ?_))))
      intro w78 hW79
      replace hb := hb.trans (hW79.below g_x8)
      replace hs := Nat.le_trans hs (Nat.le_of_eq hW79.size.symm)
      replace o_x4 := zL o_x4 hW79 ne_x4_x8
      replace r_q74 := r_q74.wrote hW79 (r_q74.ne o_x8 (by simp))
      replace o_x8 := hW79.here
      refine K21 (zQ (.pointer (some ⟨b11, 4, none⟩))) (K26 (xC b11 4 (S ((cutF (List.drop 9 ((cutF s).2))).2)) [(.int .i64 no), (.int .u8 3), (S ([] : List UInt8)), q74, (S ((cutF s).2))] [(.int .i64 no), (.int .u8 3), (S ([] : List UInt8)), q74, (S ((cutF (List.drop 9 ((cutF s).2))).2))] 72) rfl (by kernel_rfl) o_x8 (by simp) rfl ?_)
      intro w80 hW81
      replace hb := hb.trans (hW81.below g_x8)
      replace hs := Nat.le_trans hs (Nat.le_of_eq hW81.size.symm)
      replace o_x4 := zL o_x4 hW81 ne_x4_x8
      replace r_q74 := r_q74.wrote hW81 (r_q74.ne o_x8 (by simp))
      replace o_x8 := hW81.here
      refine zE (zP (zA (zF (zD (K32 (yH b11 0 [(.int .i64 no), (.int .u8 3), (S ([] : List UInt8)), q74, (S ((cutF (List.drop 9 ((cutF s).2))).2))]) (K10 (yN o_x8 0)) (K26 (yX b1 0 [(.int .i64 no), (.int .u8 3), (S ([] : List UInt8)), q74, (S ((cutF (List.drop 9 ((cutF s).2))).2))] [(.int .i64 0), (.int .u8 0), (S ([] : List UInt8)), (.slice none 0 0), (S ([] : List UInt8))] [(.int .i64 no), (.int .u8 3), (S ([] : List UInt8)), q74, (S ((cutF (List.drop 9 ((cutF s).2))).2))] 72) (allc rfl (allc rfl (allc rfl (allc r_q74.one (allc rfl rfl))))) (by kernel_rfl) o_x4 (by kernel_rfl) rfl ?_))))))
      intro w82 hW83
      replace hb := hb.trans (hW83.below g_x4)
      replace hs := Nat.le_trans hs (Nat.le_of_eq hW83.size.symm)
      replace r_q74 := r_q74.wrote hW83 (r_q74.ne o_x4 (by simp))
      replace o_x4 := hW83.here
      refine zJ (zE (zA (zX ?_)))
      refine zO [.cell 4 72, .tmp 5] [(Value.agg #[(.int .i64 no), (.int .u8 3), (S ([] : List UInt8)), q74, (S ((cutF (List.drop 9 ((cutF s).2))).2))]), (.int .i64 0)] rfl rfl ⟨⟨⟨b1, 0, none⟩, by kernel_rfl, xN [(.int .i64 no), (.int .u8 3), (S ([] : List UInt8)), q74, (S ((cutF (List.drop 9 ((cutF s).2))).2))] (by kernel_rfl) (by kernel_rfl) (xH o_x4)⟩, by kernel_rfl, trivial⟩ ?_
      have hE : ((Value.agg #[(.int .i64 no), (.int .u8 3), (S ([] : List UInt8)), q74, (S ((cutF (List.drop 9 ((cutF s).2))).2))]) = (Value.agg #[(.int .i64 ((scanF no s).1.1)), (.int .u8 ((scanF no s).1.2.1)), (S ((scanF no s).1.2.2.1)), q74, (S ((scanF no s).1.2.2.2.2))])) ∧ ((0 : Int) = (scanF no s).2) ∧ ((cutF (List.drop 9 ((cutF s).2))).1 = (scanF no s).1.2.2.2.1) := ⟨(by (rw [scan_miss (by assumption) (by assumption) (by assumption)]; try rfl; done)), (by (rw [scan_miss (by assumption) (by assumption) (by assumption)]; try rfl; done)), (by (rw [scan_miss (by assumption) (by assumption) (by assumption)]; try rfl; done))⟩
      exact ⟨q74, xG (hE.1) (congrArg (Value.int .i64) hE.2.1), r_q74.cast hE.2.2, hb⟩
     ·intro h84
      refine zJ (zE (zA (K11 zN (zV (zP (zA (zF (zD (K32 (yH b11 0 [(.int .i64 no), (.int .u8 0), (S ([] : List UInt8)), q16, (S ((cutF s).2))]) (K10 (yN o_x8 0)) (K26 (yX b1 0 [(.int .i64 no), (.int .u8 0), (S ([] : List UInt8)), q16, (S ((cutF s).2))] [(.int .i64 0), (.int .u8 0), (S ([] : List UInt8)), (.slice none 0 0), (S ([] : List UInt8))] [(.int .i64 no), (.int .u8 0), (S ([] : List UInt8)), q16, (S ((cutF s).2))] 72) (allc rfl (allc rfl (allc rfl (allc r_q16.one (allc rfl rfl))))) (by kernel_rfl) o_x4 (by kernel_rfl) rfl ?_))))))))))
      intro w85 hW86
      replace hb := hb.trans (hW86.below g_x4)
      replace hs := Nat.le_trans hs (Nat.le_of_eq hW86.size.symm)
      replace r_q16 := r_q16.wrote hW86 (r_q16.ne o_x4 (by simp))
      replace o_x4 := hW86.here
      refine zJ (zE (zA (zX ?_)))
      refine zO [.cell 4 72, .tmp 5] [(Value.agg #[(.int .i64 no), (.int .u8 0), (S ([] : List UInt8)), q16, (S ((cutF s).2))]), (.int .i64 0)] rfl rfl ⟨⟨⟨b1, 0, none⟩, by kernel_rfl, xN [(.int .i64 no), (.int .u8 0), (S ([] : List UInt8)), q16, (S ((cutF s).2))] (by kernel_rfl) (by kernel_rfl) (xH o_x4)⟩, by kernel_rfl, trivial⟩ ?_
      have hE : ((Value.agg #[(.int .i64 no), (.int .u8 0), (S ([] : List UInt8)), q16, (S ((cutF s).2))]) = (Value.agg #[(.int .i64 ((scanF no s).1.1)), (.int .u8 ((scanF no s).1.2.1)), (S ((scanF no s).1.2.2.1)), q16, (S ((scanF no s).1.2.2.2.2))])) ∧ ((0 : Int) = (scanF no s).2) ∧ ((cutF s).1 = (scanF no s).1.2.2.2.1) := ⟨(by (rw [scan_blank (by assumption) (by assumption) (by assumption)]; try rfl; done)), (by (rw [scan_blank (by assumption) (by assumption) (by assumption)]; try rfl; done)), (by (rw [scan_blank (by assumption) (by assumption) (by assumption)]; try rfl; done))⟩
      exact ⟨q16, xG (hE.1) (congrArg (Value.int .i64) hE.2.1), r_q16.cast hE.2.2, hb⟩
  ·intro h87
   refine zJ (zJ (zJ (zE (zA (zF (zD (zI (K22 (yA 95 [(S ((Lib.cut s ([35] : List UInt8)).1))]) (c_lines_trim ((Lib.cut s ([35] : List UInt8)).1) _ (by omega)) ?_))))))))
   rintro _ w88 ⟨rfl, hB89⟩
   replace hb := hb.trans (hB89.mono hs)
   replace hs := Nat.le_trans hs (hB89.size)
   replace o_x4 := zB o_x4 hB89
   replace o_x8 := zB o_x8 hB89
   replace r_q16 := r_q16.below hB89
   have := trm_len ((Lib.cut s ([35] : List UInt8)).1)
   refine zJ (zE (zA (zF (yP (zF (zD (zI (K22 (yA 96 [(S (trmF ((Lib.cut s ([35] : List UInt8)).1))), (S ([64] : List UInt8))]) (c_strings_HasPrefix (trmF ((Lib.cut s ([35] : List UInt8)).1)) ([64] : List UInt8) _) ?_))))))))
   rintro _ w91 ⟨rfl, hB92⟩
   replace hb := hb.trans (hB92.mono hs)
   replace hs := Nat.le_trans hs (hB92.size)
   replace o_x4 := zB o_x4 hB92
   replace o_x8 := zB o_x8 hB92
   replace r_q16 := r_q16.below hB92
   refine xK (hpB (trmF ((Lib.cut s ([35] : List UInt8)).1)) ([64] : List UInt8)) ?_ ?_
   ·intro h94
    have := hp_len h94; simp only [List.length_cons, List.length_nil] at this
    refine zJ (zE (zA (K11 zS (zF (zD (zI (K13 (L_ssfrom (trmF ((Lib.cut s ([35] : List UInt8)).1)) 1 Tryz.underlying9) ⟨.i64, by kernel_rfl⟩ (by omega) (K22 (yA 94 [(S (List.drop 1 (trmF ((Lib.cut s ([35] : List UInt8)).1)))), (S ([58] : List UInt8))]) (c_strings_Cut (List.drop 1 (trmF ((Lib.cut s ([35] : List UInt8)).1))) ([58] : List UInt8) _ (by rfl) (by (simp only [List.length_drop, List.length_take] at *; omega))) ?_))))))))
    rintro _ w95 ⟨rfl, hB96⟩
    replace hb := hb.trans (hB96.mono hs)
    replace hs := Nat.le_trans hs (hB96.size)
    replace o_x4 := zB o_x4 hB96
    replace o_x8 := zB o_x8 hB96
    have := cutl_len (List.drop 1 (trmF ((Lib.cut s ([35] : List UInt8)).1))) ([58] : List UInt8)
    refine zI (K21 (zQ (S ((Lib.cut (List.drop 1 (trmF ((Lib.cut s ([35] : List UInt8)).1))) ([58] : List UInt8)).1))) (K21 (zQ (S ((Lib.cut (List.drop 1 (trmF ((Lib.cut s ([35] : List UInt8)).1))) ([58] : List UInt8)).2.1))) (K21 (zQ (.bool ((Lib.cut (List.drop 1 (trmF ((Lib.cut s ([35] : List UInt8)).1))) ([58] : List UInt8)).2.2))) (xK ((Lib.cut (List.drop 1 (trmF ((Lib.cut s ([35] : List UInt8)).1))) ([58] : List UInt8)).2.2) ?_ ?_))))
    ·intro h98
     refine zJ (zJ (zJ (zE (zA (zF (zF (zD (zI (K11 (L_not true) (zI (K11 zY (zI (K11 zY (K22 (yA 97 [(S ((Lib.cut (List.drop 1 (trmF ((Lib.cut s ([35] : List UInt8)).1))) ([58] : List UInt8)).1))]) (c_lines_named ((Lib.cut (List.drop 1 (trmF ((Lib.cut s ([35] : List UInt8)).1))) ([58] : List UInt8)).1) _ (by (simp only [List.length_drop, List.length_take] at *; omega))) ?_))))))))))))))
     rintro _ w99 ⟨rfl, hB100⟩
     replace hb := hb.trans (hB100.mono hs)
     replace hs := Nat.le_trans hs (hB100.size)
     replace o_x4 := zB o_x4 hB100
     replace o_x8 := zB o_x8 hB100
     refine xK (nameF ((Lib.cut (List.drop 1 (trmF ((Lib.cut s ([35] : List UInt8)).1))) ([58] : List UInt8)).1)) ?_ ?_
     ·intro h102
      refine K11 zY (K11 (L_not true) (K11 yV (zE (zA (K11 zN (zV (zA (zD (zI (zI (K22 (yA 98 [(S ((Lib.cut (List.drop 1 (trmF ((Lib.cut s ([35] : List UInt8)).1))) ([58] : List UInt8)).2.1))]) (c_lines_fields ((Lib.cut (List.drop 1 (trmF ((Lib.cut s ([35] : List UInt8)).1))) ([58] : List UInt8)).2.1) _ (by (simp only [List.length_drop, List.length_take] at *; omega))) ?_)))))))))))
      rintro q103 w104 ⟨_, rfl, r_q103, hB105⟩
      replace r_q103 := r_q103.base hs
      replace hb := hb.trans (hB105.mono hs)
      replace hs := Nat.le_trans hs (hB105.size)
      replace o_x4 := zB o_x4 hB105
      replace o_x8 := zB o_x8 hB105
      refine K21 (zQ (.pointer (some ⟨b11, 1, none⟩))) (K26 (xC b11 1 (.int .u8 2) [(.int .i64 no), (.int .u8 0), (S ([] : List UInt8)), q16, (S ((cutF s).2))] [(.int .i64 no), (.int .u8 2), (S ([] : List UInt8)), q16, (S ((cutF s).2))] 72) rfl (by kernel_rfl) o_x8 (by simp) rfl ?_)
      intro w107 hW108
      replace hb := hb.trans (hW108.below g_x8)
      replace hs := Nat.le_trans hs (Nat.le_of_eq hW108.size.symm)
      replace o_x4 := zL o_x4 hW108 ne_x4_x8
      replace r_q103 := r_q103.wrote hW108 (r_q103.ne o_x8 (by simp))
      replace o_x8 := hW108.here
      refine K21 (zQ (.pointer (some ⟨b11, 2, none⟩))) (K26 (xC b11 2 (S ((Lib.cut (List.drop 1 (trmF ((Lib.cut s ([35] : List UInt8)).1))) ([58] : List UInt8)).1)) [(.int .i64 no), (.int .u8 2), (S ([] : List UInt8)), q16, (S ((cutF s).2))] [(.int .i64 no), (.int .u8 2), (S ((Lib.cut (List.drop 1 (trmF ((Lib.cut s ([35] : List UInt8)).1))) ([58] : List UInt8)).1)), q16, (S ((cutF s).2))] 72) rfl (by kernel_rfl) o_x8 (by simp) rfl ?_)
      intro w109 hW110
      replace hb := hb.trans (hW110.below g_x8)
      replace hs := Nat.le_trans hs (Nat.le_of_eq hW110.size.symm)
      replace o_x4 := zL o_x4 hW110 ne_x4_x8
      replace r_q103 := r_q103.wrote hW110 (r_q103.ne o_x8 (by simp))
      replace o_x8 := hW110.here
      refine K21 (zQ (.pointer (some ⟨b11, 3, none⟩))) (K26 (xC b11 3 q103 [(.int .i64 no), (.int .u8 2), (S ((Lib.cut (List.drop 1 (trmF ((Lib.cut s ([35] : List UInt8)).1))) ([58] : List UInt8)).1)), q16, (S ((cutF s).2))] [(.int .i64 no), (.int .u8 2), (S ((Lib.cut (List.drop 1 (trmF ((Lib.cut s ([35] : List UInt8)).1))) ([58] : List UInt8)).1)), q103, (S ((cutF s).2))] 72) r_q103.one (by kernel_rfl) o_x8 (by simp) rfl ?_)
      intro w111 hW112
      replace hb := hb.trans (hW112.below g_x8)
      replace hs := Nat.le_trans hs (Nat.le_of_eq hW112.size.symm)
      replace o_x4 := zL o_x4 hW112 ne_x4_x8
      replace r_q103 := r_q103.wrote hW112 (r_q103.ne o_x8 (by simp))
      replace o_x8 := hW112.here
      refine zE (zP (zA (zF (zD (K32 (yH b11 0 [(.int .i64 no), (.int .u8 2), (S ((Lib.cut (List.drop 1 (trmF ((Lib.cut s ([35] : List UInt8)).1))) ([58] : List UInt8)).1)), q103, (S ((cutF s).2))]) (K10 (yN o_x8 0)) (K26 (yX b1 0 [(.int .i64 no), (.int .u8 2), (S ((Lib.cut (List.drop 1 (trmF ((Lib.cut s ([35] : List UInt8)).1))) ([58] : List UInt8)).1)), q103, (S ((cutF s).2))] [(.int .i64 0), (.int .u8 0), (S ([] : List UInt8)), (.slice none 0 0), (S ([] : List UInt8))] [(.int .i64 no), (.int .u8 2), (S ((Lib.cut (List.drop 1 (trmF ((Lib.cut s ([35] : List UInt8)).1))) ([58] : List UInt8)).1)), q103, (S ((cutF s).2))] 72) (allc rfl (allc rfl (allc rfl (allc r_q103.one (allc rfl rfl))))) (by kernel_rfl) o_x4 (by kernel_rfl) rfl ?_))))))
      intro w113 hW114
      replace hb := hb.trans (hW114.below g_x4)
      replace hs := Nat.le_trans hs (Nat.le_of_eq hW114.size.symm)
      replace r_q103 := r_q103.wrote hW114 (r_q103.ne o_x4 (by simp))
      replace o_x4 := hW114.here
      refine zJ (zE (zA (zX ?_)))
      refine zO [.cell 4 72, .tmp 5] [(Value.agg #[(.int .i64 no), (.int .u8 2), (S ((Lib.cut (List.drop 1 (trmF ((Lib.cut s ([35] : List UInt8)).1))) ([58] : List UInt8)).1)), q103, (S ((cutF s).2))]), (.int .i64 0)] rfl rfl ⟨⟨⟨b1, 0, none⟩, by kernel_rfl, xN [(.int .i64 no), (.int .u8 2), (S ((Lib.cut (List.drop 1 (trmF ((Lib.cut s ([35] : List UInt8)).1))) ([58] : List UInt8)).1)), q103, (S ((cutF s).2))] (by kernel_rfl) (by kernel_rfl) (xH o_x4)⟩, by kernel_rfl, trivial⟩ ?_
      have hE : ((Value.agg #[(.int .i64 no), (.int .u8 2), (S ((Lib.cut (List.drop 1 (trmF ((Lib.cut s ([35] : List UInt8)).1))) ([58] : List UInt8)).1)), q103, (S ((cutF s).2))]) = (Value.agg #[(.int .i64 ((scanF no s).1.1)), (.int .u8 ((scanF no s).1.2.1)), (S ((scanF no s).1.2.2.1)), q103, (S ((scanF no s).1.2.2.2.2))])) ∧ ((0 : Int) = (scanF no s).2) ∧ (fieldsF ((Lib.cut (List.drop 1 (trmF ((Lib.cut s ([35] : List UInt8)).1))) ([58] : List UInt8)).2.1) = (scanF no s).1.2.2.2.1) := ⟨(by (rw [scan_order (by assumption) (by assumption) (by assumption) (by assumption)]; try rfl; done)), (by (rw [scan_order (by assumption) (by assumption) (by assumption) (by assumption)]; try rfl; done)), (by (rw [scan_order (by assumption) (by assumption) (by assumption) (by assumption)]; try rfl; done))⟩
      exact ⟨q103, xG (hE.1) (congrArg (Value.int .i64) hE.2.1), r_q103.cast hE.2.2, hb⟩
     ·intro h115
      refine K11 zY (K11 (L_not false) (K11 yV (zE (zA (K11 zS (zF (zD (K21 (zQ (Value.agg #[(.int .i64 0), (.int .u8 0), (S ([] : List UInt8)), (.slice none 0 0), (S ([] : List UInt8))])) (K26 (yX b1 0 [(.int .i64 0), (.int .u8 0), (S ([] : List UInt8)), (.slice none 0 0), (S ([] : List UInt8))] [(.int .i64 0), (.int .u8 0), (S ([] : List UInt8)), (.slice none 0 0), (S ([] : List UInt8))] [(.int .i64 0), (.int .u8 0), (S ([] : List UInt8)), (.slice none 0 0), (S ([] : List UInt8))] 72) rfl (by kernel_rfl) o_x4 (by kernel_rfl) rfl ?_)))))))))
      intro w116 hW117
      replace hb := hb.trans (hW117.below g_x4)
      replace hs := Nat.le_trans hs (Nat.le_of_eq hW117.size.symm)
      replace o_x4 := hW117.here
      refine zJ (zE (zA (zX (zH (zU (zH ?_))))))
      refine zO [.cell 4 72, .tmp 5] [(Value.agg #[(.int .i64 0), (.int .u8 0), (S ([] : List UInt8)), (.slice none 0 0), (S ([] : List UInt8))]), (.int .i64 33)] rfl rfl ⟨⟨⟨b1, 0, none⟩, by kernel_rfl, xN [(.int .i64 0), (.int .u8 0), (S ([] : List UInt8)), (.slice none 0 0), (S ([] : List UInt8))] (by kernel_rfl) (by kernel_rfl) (xH o_x4)⟩, by kernel_rfl, trivial⟩ ?_
      have hE : ((Value.agg #[(.int .i64 0), (.int .u8 0), (S ([] : List UInt8)), (.slice none 0 0), (S ([] : List UInt8))]) = (Value.agg #[(.int .i64 ((scanF no s).1.1)), (.int .u8 ((scanF no s).1.2.1)), (S ((scanF no s).1.2.2.1)), (.slice none 0 0), (S ((scanF no s).1.2.2.2.2))])) ∧ ((33 : Int) = (scanF no s).2) ∧ (([] : List (List UInt8)) = (scanF no s).1.2.2.2.1) := ⟨(by (rw [scan_unnamed (by assumption) (by assumption) (.inr (by assumption))]; try rfl; done)), (by (rw [scan_unnamed (by assumption) (by assumption) (.inr (by assumption))]; try rfl; done)), (by (rw [scan_unnamed (by assumption) (by assumption) (.inr (by assumption))]; try rfl; done))⟩
      exact ⟨(.slice none 0 0), xG (hE.1) (congrArg (Value.int .i64) hE.2.1), (Row.nil _ _ _ _ _).cast hE.2.2, hb⟩
    ·intro h118
     refine zJ (zJ (zJ (zE (zA (zF (zF (zD (zI (K11 (L_not false) (zI (K11 yC (K11 yC (K11 yC (K11 yU (zE (zA (K11 zS (zF (zD (K21 (zQ (Value.agg #[(.int .i64 0), (.int .u8 0), (S ([] : List UInt8)), (.slice none 0 0), (S ([] : List UInt8))])) (K26 (yX b1 0 [(.int .i64 0), (.int .u8 0), (S ([] : List UInt8)), (.slice none 0 0), (S ([] : List UInt8))] [(.int .i64 0), (.int .u8 0), (S ([] : List UInt8)), (.slice none 0 0), (S ([] : List UInt8))] [(.int .i64 0), (.int .u8 0), (S ([] : List UInt8)), (.slice none 0 0), (S ([] : List UInt8))] 72) rfl (by kernel_rfl) o_x4 (by kernel_rfl) rfl ?_)))))))))))))))))))))
     intro w119 hW120
     replace hb := hb.trans (hW120.below g_x4)
     replace hs := Nat.le_trans hs (Nat.le_of_eq hW120.size.symm)
     replace o_x4 := hW120.here
     refine zJ (zE (zA (zX (zH (zU (zH ?_))))))
     refine zO [.cell 4 72, .tmp 5] [(Value.agg #[(.int .i64 0), (.int .u8 0), (S ([] : List UInt8)), (.slice none 0 0), (S ([] : List UInt8))]), (.int .i64 33)] rfl rfl ⟨⟨⟨b1, 0, none⟩, by kernel_rfl, xN [(.int .i64 0), (.int .u8 0), (S ([] : List UInt8)), (.slice none 0 0), (S ([] : List UInt8))] (by kernel_rfl) (by kernel_rfl) (xH o_x4)⟩, by kernel_rfl, trivial⟩ ?_
     have hE : ((Value.agg #[(.int .i64 0), (.int .u8 0), (S ([] : List UInt8)), (.slice none 0 0), (S ([] : List UInt8))]) = (Value.agg #[(.int .i64 ((scanF no s).1.1)), (.int .u8 ((scanF no s).1.2.1)), (S ((scanF no s).1.2.2.1)), (.slice none 0 0), (S ((scanF no s).1.2.2.2.2))])) ∧ ((33 : Int) = (scanF no s).2) ∧ (([] : List (List UInt8)) = (scanF no s).1.2.2.2.1) := ⟨(by (rw [scan_unnamed (by assumption) (by assumption) (.inl (by assumption))]; try rfl; done)), (by (rw [scan_unnamed (by assumption) (by assumption) (.inl (by assumption))]; try rfl; done)), (by (rw [scan_unnamed (by assumption) (by assumption) (.inl (by assumption))]; try rfl; done))⟩
     exact ⟨(.slice none 0 0), xG (hE.1) (congrArg (Value.int .i64) hE.2.1), (Row.nil _ _ _ _ _).cast hE.2.2, hb⟩
   ·intro h121
    refine zJ (zE (zA (K11 zN (zF (zD (zI (K22 (L_sne (trmF ((Lib.cut s ([35] : List UInt8)).1)) ([] : List UInt8) rfl) ?_ ?_)))))))
    ·intro h122
     refine zJ (zE (zA (K11 zS (zD (K21 (zQ (.pointer (some ⟨b11, 1, none⟩))) (K26 (xC b11 1 (.int .u8 1) [(.int .i64 no), (.int .u8 0), (S ([] : List UInt8)), q16, (S ((cutF s).2))] [(.int .i64 no), (.int .u8 1), (S ([] : List UInt8)), q16, (S ((cutF s).2))] 72) rfl (by kernel_rfl) o_x8 (by simp) rfl ?_))))))
     intro w123 hW124
     replace hb := hb.trans (hW124.below g_x8)
     replace hs := Nat.le_trans hs (Nat.le_of_eq hW124.size.symm)
     replace o_x4 := zL o_x4 hW124 ne_x4_x8
     replace r_q16 := r_q16.wrote hW124 (r_q16.ne o_x8 (by simp))
     replace o_x8 := hW124.here
     refine zE (zP (zA (zF (zD (K32 (yH b11 0 [(.int .i64 no), (.int .u8 1), (S ([] : List UInt8)), q16, (S ((cutF s).2))]) (K10 (yN o_x8 0)) (K26 (yX b1 0 [(.int .i64 no), (.int .u8 1), (S ([] : List UInt8)), q16, (S ((cutF s).2))] [(.int .i64 0), (.int .u8 0), (S ([] : List UInt8)), (.slice none 0 0), (S ([] : List UInt8))] [(.int .i64 no), (.int .u8 1), (S ([] : List UInt8)), q16, (S ((cutF s).2))] 72) (allc rfl (allc rfl (allc rfl (allc r_q16.one (allc rfl rfl))))) (by kernel_rfl) o_x4 (by kernel_rfl) rfl ?_))))))
     intro w125 hW126
     replace hb := hb.trans (hW126.below g_x4)
     replace hs := Nat.le_trans hs (Nat.le_of_eq hW126.size.symm)
     replace r_q16 := r_q16.wrote hW126 (r_q16.ne o_x4 (by simp))
     replace o_x4 := hW126.here
     refine zJ (zE (zA (zX ?_)))
     refine zO [.cell 4 72, .tmp 5] [(Value.agg #[(.int .i64 no), (.int .u8 1), (S ([] : List UInt8)), q16, (S ((cutF s).2))]), (.int .i64 0)] rfl rfl ⟨⟨⟨b1, 0, none⟩, by kernel_rfl, xN [(.int .i64 no), (.int .u8 1), (S ([] : List UInt8)), q16, (S ((cutF s).2))] (by kernel_rfl) (by kernel_rfl) (xH o_x4)⟩, by kernel_rfl, trivial⟩ ?_
     have hE : ((Value.agg #[(.int .i64 no), (.int .u8 1), (S ([] : List UInt8)), q16, (S ((cutF s).2))]) = (Value.agg #[(.int .i64 ((scanF no s).1.1)), (.int .u8 ((scanF no s).1.2.1)), (S ((scanF no s).1.2.2.1)), q16, (S ((scanF no s).1.2.2.2.2))])) ∧ ((0 : Int) = (scanF no s).2) ∧ ((cutF s).1 = (scanF no s).1.2.2.2.1) := ⟨(by (rw [scan_data (by assumption) (by assumption) (by assumption)]; try rfl; done)), (by (rw [scan_data (by assumption) (by assumption) (by assumption)]; try rfl; done)), (by (rw [scan_data (by assumption) (by assumption) (by assumption)]; try rfl; done))⟩
     exact ⟨q16, xG (hE.1) (congrArg (Value.int .i64) hE.2.1), r_q16.cast hE.2.2, hb⟩
    ·intro h127
     refine zJ (zE (zA (K11 zN (zF (zD (K21 (zQ (.pointer (some ⟨b11, 4, none⟩))) (K22 (zZ b11 4 (S ((cutF s).2))) (zM o_x8 rfl) (K22 (yA 96 [(S ((cutF s).2)), (S ([64, 109, 105, 115, 115, 105, 110, 103, 58] : List UInt8))]) (c_strings_HasPrefix ((cutF s).2) ([64, 109, 105, 115, 115, 105, 110, 103, 58] : List UInt8) _) ?_))))))))
     rintro _ w128 ⟨rfl, hB129⟩
     replace hb := hb.trans (hB129.mono hs)
     replace hs := Nat.le_trans hs (hB129.size)
     replace o_x4 := zB o_x4 hB129
     replace o_x8 := zB o_x8 hB129
     replace r_q16 := r_q16.below hB129
     refine xK (hpB ((cutF s).2) ([64, 109, 105, 115, 115, 105, 110, 103, 58] : List UInt8)) ?_ ?_
     ·intro h131
      have := hp_len h131; simp only [List.length_cons, List.length_nil] at this
      refine zJ (zE (zA (K11 zS (zF (zD (K21 (zQ (.pointer (some ⟨b11, 1, none⟩))) (K26 (xC b11 1 (.int .u8 3) [(.int .i64 no), (.int .u8 0), (S ([] : List UInt8)), q16, (S ((cutF s).2))] [(.int .i64 no), (.int .u8 3), (S ([] : List UInt8)), q16, (S ((cutF s).2))] 72) rfl (by kernel_rfl) o_x8 (by simp) rfl ?_)))))))
      intro w132 hW133
      replace hb := hb.trans (hW133.below g_x8)
      replace hs := Nat.le_trans hs (Nat.le_of_eq hW133.size.symm)
      replace o_x4 := zL o_x4 hW133 ne_x4_x8
      replace o_x8 := hW133.here
      refine zE (zA (zD (K21 (zQ (.pointer (some ⟨b11, 4, none⟩))) (K22 (zZ b11 4 (S ((cutF s).2))) (zM o_x8 rfl) (K13 (L_ssfrom ((cutF s).2) 9 Tryz.underlying9) ⟨.i64, by kernel_rfl⟩ (by omega) (K22 (yA 93 [(S (List.drop 9 ((cutF s).2)))]) (c_lines_Cut (List.drop 9 ((cutF s).2)) _ (by (simp only [List.length_drop, List.length_take] at *; omega))) ?_))))))
      rintro _ w135 ⟨q134, rfl, r_q134, hB136⟩
      replace r_q134 := r_q134.base hs
      replace hb := hb.trans (hB136.mono hs)
      replace hs := Nat.le_trans hs (hB136.size)
      replace o_x4 := zB o_x4 hB136
      replace o_x8 := zB o_x8 hB136
      refine zI (K21 (zQ q134) (K21 (zQ (S ((cutF (List.drop 9 ((cutF s).2))).2))) (K21 (zQ (.pointer (some ⟨b11, 3, none⟩))) (K26 (xC b11 3 q134 [(.int .i64 no), (.int .u8 3), (S ([] : List UInt8)), q16, (S ((cutF s).2))] [(.int .i64 no), (.int .u8 3), (S ([] : List UInt8)), q134, (S ((cutF s).2))] 72) r_q134.one (by kernel_rfl) o_x8 (by simp) rfl ?_))))
      intro w138 hW139
      replace hb := hb.trans (hW139.below g_x8)
      replace hs := Nat.le_trans hs (Nat.le_of_eq hW139.size.symm)
      replace o_x4 := zL o_x4 hW139 ne_x4_x8
      replace r_q134 := r_q134.wrote hW139 (r_q134.ne o_x8 (by simp))
      replace o_x8 := hW139.here
      refine K21 (zQ (.pointer (some ⟨b11, 4, none⟩))) (K26 (xC b11 4 (S ((cutF (List.drop 9 ((cutF s).2))).2)) [(.int .i64 no), (.int .u8 3), (S ([] : List UInt8)), q134, (S ((cutF s).2))] [(.int .i64 no), (.int .u8 3), (S ([] : List UInt8)), q134, (S ((cutF (List.drop 9 ((cutF s).2))).2))] 72) rfl (by kernel_rfl) o_x8 (by simp) rfl ?_)
      intro w140 hW141
      replace hb := hb.trans (hW141.below g_x8)
      replace hs := Nat.le_trans hs (Nat.le_of_eq hW141.size.symm)
      replace o_x4 := zL o_x4 hW141 ne_x4_x8
      replace r_q134 := r_q134.wrote hW141 (r_q134.ne o_x8 (by simp))
      replace o_x8 := hW141.here
      refine zE (zP (zA (zF (zD (K32 (yH b11 0 [(.int .i64 no), (.int .u8 3), (S ([] : List UInt8)), q134, (S ((cutF (List.drop 9 ((cutF s).2))).2))]) (K10 (yN o_x8 0)) (K26 (yX b1 0 [(.int .i64 no), (.int .u8 3), (S ([] : List UInt8)), q134, (S ((cutF (List.drop 9 ((cutF s).2))).2))] [(.int .i64 0), (.int .u8 0), (S ([] : List UInt8)), (.slice none 0 0), (S ([] : List UInt8))] [(.int .i64 no), (.int .u8 3), (S ([] : List UInt8)), q134, (S ((cutF (List.drop 9 ((cutF s).2))).2))] 72) (allc rfl (allc rfl (allc rfl (allc r_q134.one (allc rfl rfl))))) (by kernel_rfl) o_x4 (by kernel_rfl) rfl ?_))))))
      intro w142 hW143
      replace hb := hb.trans (hW143.below g_x4)
      replace hs := Nat.le_trans hs (Nat.le_of_eq hW143.size.symm)
      replace r_q134 := r_q134.wrote hW143 (r_q134.ne o_x4 (by simp))
      replace o_x4 := hW143.here
      refine zJ (zE (zA (zX ?_)))
      refine zO [.cell 4 72, .tmp 5] [(Value.agg #[(.int .i64 no), (.int .u8 3), (S ([] : List UInt8)), q134, (S ((cutF (List.drop 9 ((cutF s).2))).2))]), (.int .i64 0)] rfl rfl ⟨⟨⟨b1, 0, none⟩, by kernel_rfl, xN [(.int .i64 no), (.int .u8 3), (S ([] : List UInt8)), q134, (S ((cutF (List.drop 9 ((cutF s).2))).2))] (by kernel_rfl) (by kernel_rfl) (xH o_x4)⟩, by kernel_rfl, trivial⟩ ?_
      have hE : ((Value.agg #[(.int .i64 no), (.int .u8 3), (S ([] : List UInt8)), q134, (S ((cutF (List.drop 9 ((cutF s).2))).2))]) = (Value.agg #[(.int .i64 ((scanF no s).1.1)), (.int .u8 ((scanF no s).1.2.1)), (S ((scanF no s).1.2.2.1)), q134, (S ((scanF no s).1.2.2.2.2))])) ∧ ((0 : Int) = (scanF no s).2) ∧ ((cutF (List.drop 9 ((cutF s).2))).1 = (scanF no s).1.2.2.2.1) := ⟨(by (rw [scan_miss (by assumption) (by assumption) (by assumption)]; try rfl; done)), (by (rw [scan_miss (by assumption) (by assumption) (by assumption)]; try rfl; done)), (by (rw [scan_miss (by assumption) (by assumption) (by assumption)]; try rfl; done))⟩
      exact ⟨q134, xG (hE.1) (congrArg (Value.int .i64) hE.2.1), r_q134.cast hE.2.2, hb⟩
     ·intro h144
      refine zJ (zE (zA (K11 zN (zV (zP (zA (zF (zD (K32 (yH b11 0 [(.int .i64 no), (.int .u8 0), (S ([] : List UInt8)), q16, (S ((cutF s).2))]) (K10 (yN o_x8 0)) (K26 (yX b1 0 [(.int .i64 no), (.int .u8 0), (S ([] : List UInt8)), q16, (S ((cutF s).2))] [(.int .i64 0), (.int .u8 0), (S ([] : List UInt8)), (.slice none 0 0), (S ([] : List UInt8))] [(.int .i64 no), (.int .u8 0), (S ([] : List UInt8)), q16, (S ((cutF s).2))] 72) (allc rfl (allc rfl (allc rfl (allc r_q16.one (allc rfl rfl))))) (by kernel_rfl) o_x4 (by kernel_rfl) rfl ?_))))))))))
      intro w145 hW146
      replace hb := hb.trans (hW146.below g_x4)
      replace hs := Nat.le_trans hs (Nat.le_of_eq hW146.size.symm)
      replace r_q16 := r_q16.wrote hW146 (r_q16.ne o_x4 (by simp))
      replace o_x4 := hW146.here
      refine zJ (zE (zA (zX ?_)))
      refine zO [.cell 4 72, .tmp 5] [(Value.agg #[(.int .i64 no), (.int .u8 0), (S ([] : List UInt8)), q16, (S ((cutF s).2))]), (.int .i64 0)] rfl rfl ⟨⟨⟨b1, 0, none⟩, by kernel_rfl, xN [(.int .i64 no), (.int .u8 0), (S ([] : List UInt8)), q16, (S ((cutF s).2))] (by kernel_rfl) (by kernel_rfl) (xH o_x4)⟩, by kernel_rfl, trivial⟩ ?_
      have hE : ((Value.agg #[(.int .i64 no), (.int .u8 0), (S ([] : List UInt8)), q16, (S ((cutF s).2))]) = (Value.agg #[(.int .i64 ((scanF no s).1.1)), (.int .u8 ((scanF no s).1.2.1)), (S ((scanF no s).1.2.2.1)), q16, (S ((scanF no s).1.2.2.2.2))])) ∧ ((0 : Int) = (scanF no s).2) ∧ ((cutF s).1 = (scanF no s).1.2.2.2.1) := ⟨(by (rw [scan_blank (by assumption) (by assumption) (by assumption)]; try rfl; done)), (by (rw [scan_blank (by assumption) (by assumption) (by assumption)]; try rfl; done)), (by (rw [scan_blank (by assumption) (by assumption) (by assumption)]; try rfl; done))⟩
      exact ⟨q16, xG (hE.1) (congrArg (Value.int .i64) hE.2.1), r_q16.cast hE.2.2, hb⟩
end Go.Proofs.YtkclikfejmeblaaGreatDoor
end

/- === Wlread === -/
section
/- Walks, written by my program walk.py out of the specification lread.py: each theorem says what one function returns and that it leaves memory as it was. -/
namespace Go.Proofs.YtkclikfejmeblaaGreatDoor
open Go Go.RowKit Go.FK
set_option maxHeartbeats 4000000
set_option maxRecDepth 100000
set_option linter.unusedVariables false
set_option linter.unusedSimpArgs false
theorem c_lines_Read_ok (f : List UInt8) (s : List UInt8) (w : World) (hs : s.length ≤ 1073741824) (hok : (badL (toldF s)).2 = 0) :
  Calls Tryz.prog 27 #[(S f), (S s)] w (Ret fun v w' => ∃ (l0 : List LineV) (q0 : Value), v = (.tuple #[q0, .nilIface]) ∧ NRow 9 w' w.heap.size 72 5 encLine q0 l0 ∧ l0.map stripL = linesF (toldF s) ∧ Below w.heap.size w w') := by
 refine K11 (enterM (args := [(S f), (S s)]) Tryz.func27 rfl (by kernel_rfl : _ = 34)) ?_
 have hb := Below.refl w.heap.size w
 have hs : w.heap.size ≤ w.heap.size := Nat.le_refl _
 refine zF (zD (K21 (yW (fun b => .pointer (some ⟨b, 0, none⟩)) (.cells [(S f)].toArray 9 (0, 0))) ?_))
 intro b1 w2 hN3
 have g_x2 : w.heap.size ≤ b1 := by rw [hN3.num]; exact hs
 replace hb := hb.trans (hN3.below.mono hs)
 replace hs := Nat.le_trans hs (hN3.below.size)
 have o_x2 := hN3.here
 refine K21 (yW (fun b => .pointer (some ⟨b, 0, none⟩)) (.cells [(.slice none 0 0)].toArray 58 (0, 0))) ?_
 intro b4 w5 hN6
 have g_x4 : w.heap.size ≤ b4 := by rw [hN6.num]; exact hs
 replace hb := hb.trans (hN6.below.mono hs)
 replace hs := Nat.le_trans hs (hN6.below.size)
 replace o_x2 := zB o_x2 hN6.below
 have o_x4 := hN6.here
 refine K21 (yW (fun b => .pointer (some ⟨b, 0, none⟩)) (.cells [.nilIface].toArray 25 (0, 0))) ?_
 intro b7 w8 hN9
 have g_x5 : w.heap.size ≤ b7 := by rw [hN9.num]; exact hs
 replace hb := hb.trans (hN9.below.mono hs)
 replace hs := Nat.le_trans hs (hN9.below.size)
 replace o_x2 := zB o_x2 hN9.below
 replace o_x4 := zB o_x4 hN9.below
 have o_x5 := hN9.here
 refine zE (zA (zF (zD (K21 (yW (fun b => .pointer (some ⟨b, 0, none⟩)) (.cells [(.slice none 0 0)].toArray 58 (0, 0))) ?_))))
 intro b10 w11 hN12
 have ne_x4_x6 : NE b4 b10 := by have := (yR o_x4); have := hN12.num; show _ ≠ _; omega
 have g_x6 : w.heap.size ≤ b10 := by rw [hN12.num]; exact hs
 replace hb := hb.trans (hN12.below.mono hs)
 replace hs := Nat.le_trans hs (hN12.below.size)
 replace o_x2 := zB o_x2 hN12.below
 replace o_x4 := zB o_x4 hN12.below
 replace o_x5 := zB o_x5 hN12.below
 have o_x6 := hN12.here
 refine zE (zA (zF (zF (zD (zI (K22 (yA 58 [(S s)]) (c_lines_Each s _) ?_))))))
 rintro _ w13 ⟨cb16, rfl, o_cb16, g_cb16, hB14⟩
 replace g_cb16 := Nat.le_trans hs g_cb16
 replace hb := hb.trans (hB14.mono hs)
 replace hs := Nat.le_trans hs (hB14.size)
 replace o_x2 := zB o_x2 hB14
 replace o_x4 := zB o_x4 hB14
 replace o_x5 := zB o_x5 hB14
 replace o_x6 := zB o_x6 hB14
 refine zE (zA (yP ?_))
 have lt_x2_0 : b1 < w13.heap.size := yR o_x2
 have lt_x4_0 : b4 < w13.heap.size := yR o_x4
 have lt_x5_0 : b7 < w13.heap.size := yR o_x5
 have lt_x6_0 : b10 < w13.heap.size := yR o_x6
 have lt_cb16_0 : cb16 < w13.heap.size := yR o_cb16
 have hs_0 := hs
 have hb_0 := hb
 refine W_range 90 [(.pointer (some ⟨cb16, 0, none⟩))] (toldF s) (by kernel_rfl) (fun _ _ => rfl) (it_lines_Each_1 cb16 s (by omega)) o_cb16 ((fun D A B h hc hd => yG h hc (fun h => Nat.not_lt.2 (hd _ h) lt_cb16_0))) (by intro x; rfl) (fun K pre A => ∃ (acc : List LineV) (v_x6_0 : Value), (A.heap[b1]? = some (.cells [(S f)].toArray 9 (0, 0))) ∧ (A.heap[b4]? = some (.cells [(.slice none 0 0)].toArray 58 (0, 0))) ∧ (A.heap[b7]? = some (.cells [.nilIface].toArray 25 (0, 0))) ∧ (A.heap[b10]? = some (.cells [v_x6_0].toArray 58 (0, 0))) ∧ (A.heap[cb16]? = some (.cells [(S s)].toArray 9 (0, 0))) ∧ (NRow 9 A w.heap.size 72 5 encLine v_x6_0 acc) ∧ (∀ g, NOwn v_x6_0 acc g → ¬ Iv w13.heap.size K g) ∧ (Below w.heap.size w A) ∧ (acc.map stripL = linesF pre) ∧ (acc.length ≤ pre.length)) (fun K c pre A => False) ?_ ?_ ?_ ?_ ?_ ?_
 ·intro A hA
  exact ⟨[], (.slice none 0 0), zB o_x2 hA, zB o_x4 hA, zB o_x5 hA, zB o_x6 hA, zB o_cb16 hA, NRow.nil _ _ _ _ _ _, nrN_nil _ _, hb.trans (hA.mono hs), by rfl, by exact Nat.le_refl _⟩
 ·rintro K pre A B ⟨acc, v_x6_0, o_x2, o_x4, o_x5, o_x6, o_cb16, r_x6_0, nr_r_x6_0, hb, p1, p3⟩ hc
  exact ⟨acc, v_x6_0, yG o_x2 hc (fun h => Nat.not_lt.2 h.1 lt_x2_0), yG o_x4 hc (fun h => Nat.not_lt.2 h.1 lt_x4_0), yG o_x5 hc (fun h => Nat.not_lt.2 h.1 lt_x5_0), yG o_x6 hc (fun h => Nat.not_lt.2 h.1 lt_x6_0), yG o_cb16 hc (fun h => Nat.not_lt.2 h.1 lt_cb16_0), r_x6_0.ch hc nr_r_x6_0, nr_r_x6_0, hc.below hb hb.size (fun k h => Nat.le_trans hs_0 h.1), p1, p3⟩
 ·intro K c _ A B h hc; exact h.elim
 ·intro l K pre x A hi hN hK0 hK hpre
  obtain ⟨acc, v_x6_0, o_x2, o_x4, o_x5, o_x6, o_cb16, r_x6_0, nr_r_x6_0, hb, p1, p3⟩ := hi
  have hs := hb.size
  have hk := Kp.refl (w13.heap.size) K A
  have nv_x2 : ¬ Iv (w13.heap.size) K b1 := fun h => Nat.not_lt.2 h.1 lt_x2_0
  have nv_x4 : ¬ Iv (w13.heap.size) K b4 := fun h => Nat.not_lt.2 h.1 lt_x4_0
  have nv_x5 : ¬ Iv (w13.heap.size) K b7 := fun h => Nat.not_lt.2 h.1 lt_x5_0
  have nv_x6 : ¬ Iv (w13.heap.size) K b10 := fun h => Nat.not_lt.2 h.1 lt_x6_0
  have nv_cb16 : ¬ Iv (w13.heap.size) K cb16 := fun h => Nat.not_lt.2 h.1 lt_cb16_0
  replace o_cb16 := hN
  have hsh := told_short (pre_mem hpre)
  have hpl := pre_lt hpre
  have htl := told_len s
  refine zF (zD (zJ (zE (zA (zD (zJ (zE ?_)))))))
  refine zA ⟨hk, ?_⟩
  intro w17 hc18
  replace o_x2 := yG o_x2 hc18 nv_x2
  replace o_x4 := yG o_x4 hc18 nv_x4
  replace o_x5 := yG o_x5 hc18 nv_x5
  replace o_x6 := yG o_x6 hc18 nv_x6
  replace o_cb16 := yG o_cb16 hc18 nv_cb16
  replace r_x6_0 := r_x6_0.ch hc18 nr_r_x6_0
  replace hb := hc18.below hb hs (fun k h => Nat.le_trans hs_0 h.1)
  replace hs := hb.size
  replace hK := Nat.le_trans hK hc18.size
  replace hk := Kp.refl (w13.heap.size) K w17
  refine yP (zF (zD (zI (zI (K22 (yA 59 [(.int .i64 x.1), (S x.2)]) (c_lines_Scan x.1 x.2 _ (by omega)) ?_)))))
  rintro _ w20 ⟨q19, rfl, r_q19, hB21⟩
  have nr_r_q19 := nr_row (K0 := w13.heap.size) r_q19 hK
  have nb_o_x2_r_q19 := Row.nb_call r_q19 o_x2
  have nb_o_cb16_r_q19 := Row.nb_call r_q19 o_cb16
  replace r_q19 := r_q19.base hs
  replace hb := hb.trans (hB21.mono hs)
  replace hk := hk.ch (Ch.of_below hB21) hK (fun _ h => h.elim)
  replace hK := Nat.le_trans hK (hB21.size)
  replace hs := Nat.le_trans hs (hB21.size)
  replace o_x2 := zB o_x2 hB21
  replace o_x4 := zB o_x4 hB21
  replace o_x5 := zB o_x5 hB21
  replace o_x6 := zB o_x6 hB21
  replace o_cb16 := zB o_cb16 hB21
  replace r_x6_0 := r_x6_0.below hB21
  have := scan_err x.1 x.2
  refine zI (K21 (zQ (Value.agg #[(.int .i64 ((scanF x.1 x.2).1.1)), (.int .u8 ((scanF x.1 x.2).1.2.1)), (S ((scanF x.1 x.2).1.2.2.1)), q19, (S ((scanF x.1 x.2).1.2.2.2.2))])) (K21 (zQ (.int .i64 ((scanF x.1 x.2).2))) (K21 (yW (fun b => .pointer (some ⟨b, 0, none⟩)) (.cells [(.int .i64 0), (.int .u8 0), (S ([] : List UInt8)), (.slice none 0 0), (S ([] : List UInt8))].toArray 72 (0, 0))) ?_)))
  intro b23 w24 hN25
  have g_x9 : w.heap.size ≤ b23 := by rw [hN25.num]; exact hs
  have nv_x9 : ¬ Iv w13.heap.size K b23 := fun h => by have := h.2; have := hN25.num; omega
  have nb_o_x9_r_x6_0 := r_x6_0.new_ne hN25
  replace hb := hb.trans (hN25.below.mono hs)
  replace hk := hk.ch (Ch.of_below hN25.below) hK (fun _ h => h.elim)
  replace hK := Nat.le_trans hK (hN25.below.size)
  replace hs := Nat.le_trans hs (hN25.below.size)
  replace o_x2 := zB o_x2 hN25.below
  replace o_x4 := zB o_x4 hN25.below
  replace o_x5 := zB o_x5 hN25.below
  replace o_x6 := zB o_x6 hN25.below
  replace o_cb16 := zB o_cb16 hN25.below
  replace r_x6_0 := r_x6_0.below hN25.below
  replace r_q19 := r_q19.below hN25.below
  have o_x9 := hN25.here
  refine K26 (yX b23 0 [(.int .i64 ((scanF x.1 x.2).1.1)), (.int .u8 ((scanF x.1 x.2).1.2.1)), (S ((scanF x.1 x.2).1.2.2.1)), q19, (S ((scanF x.1 x.2).1.2.2.2.2))] [(.int .i64 0), (.int .u8 0), (S ([] : List UInt8)), (.slice none 0 0), (S ([] : List UInt8))] [(.int .i64 ((scanF x.1 x.2).1.1)), (.int .u8 ((scanF x.1 x.2).1.2.1)), (S ((scanF x.1 x.2).1.2.2.1)), q19, (S ((scanF x.1 x.2).1.2.2.2.2))] 72) (allc rfl (allc rfl (allc rfl (allc r_q19.one (allc rfl rfl))))) (by kernel_rfl) o_x9 (by kernel_rfl) rfl ?_
  intro w26 hW27
  replace hb := hb.trans (hW27.below g_x9)
  replace hk := hk.ch (Ch.of_wrote hW27) hK (fun k e h => nv_x9 (e ▸ h))
  replace hK := Nat.le_trans hK (Nat.le_of_eq hW27.size.symm)
  replace hs := Nat.le_trans hs (Nat.le_of_eq hW27.size.symm)
  replace o_x2 := zL o_x2 hW27 (zT o_x2 o_x9 (by simp))
  replace o_x4 := zL o_x4 hW27 (zT o_x4 o_x9 (by simp))
  replace o_x5 := zL o_x5 hW27 (zT o_x5 o_x9 (by simp))
  replace o_x6 := zL o_x6 hW27 (zT o_x6 o_x9 (by simp))
  replace o_cb16 := zL o_cb16 hW27 (zT o_cb16 o_x9 (by simp))
  replace r_x6_0 := r_x6_0.wrote hW27 nb_o_x9_r_x6_0
  replace r_q19 := r_q19.wrote hW27 (r_q19.ne o_x9 (by simp))
  replace o_x9 := hW27.here
  refine zJ (zE (zA (zF (zF (zD (zI (K22 (yD .i64 ((scanF x.1 x.2).2) 0 ((scanF x.1 x.2).2 ≠ 0) rfl (cmp_ne ((scanF x.1 x.2).2) 0)) ?_ ?_)))))))
  ·intro h28
   replace h28 : (scanF x.1 x.2).2 ≠ 0 := by omega
   exfalso; exact absurd (bad_mem hok hpre) h28
  ·intro h29
   replace h29 : (scanF x.1 x.2).2 = 0 := by omega
   refine zE (zA (K11 zN (zV (zA (zD (K22 (zZ b10 0 v_x6_0) (zM o_x6 rfl) (K32 (yH b23 0 [(.int .i64 ((scanF x.1 x.2).1.1)), (.int .u8 ((scanF x.1 x.2).1.2.1)), (S ((scanF x.1 x.2).1.2.2.1)), q19, (S ((scanF x.1 x.2).1.2.2.2.2))]) (K10 (yN o_x9 0)) (K21 (L_app el58 w.heap.size v_x6_0 acc ((scanF x.1 x.2).1.1, (scanF x.1 x.2).1.2.1, (scanF x.1 x.2).1.2.2.1, (q19, (scanF x.1 x.2).1.2.2.2.1), (scanF x.1 x.2).1.2.2.2.2) hs r_x6_0.1 (by omega) (by kernel_rfl) rfl (allc rfl (allc rfl (allc rfl (allc r_q19.one (allc rfl rfl))))) (by kernel_rfl) rfl) ?_))))))))
   intro v30 w31 hr32 hg33 how34
   have nr2 := nrN_push (x := ((scanF x.1 x.2).1.1, (scanF x.1 x.2).1.2.1, (scanF x.1 x.2).1.2.2.1, (q19, (scanF x.1 x.2).1.2.2.2.1), (scanF x.1 x.2).1.2.2.2.2)) nr_r_x6_0 (nr_app how34 (fun g e => nr_r_x6_0 g (.inl e)) hK) nr_r_q19
   have nc_o_x9 := ownb_app how34 (fun e => nb_o_x9_r_x6_0 (.inl e)) (yR o_x9)
   have nc_o_x9 := nbN_push (x := ((scanF x.1 x.2).1.1, (scanF x.1 x.2).1.2.1, (scanF x.1 x.2).1.2.2.1, (q19, (scanF x.1 x.2).1.2.2.2.1), (scanF x.1 x.2).1.2.2.2.2)) nb_o_x9_r_x6_0 nc_o_x9 (r_q19.ne o_x9 (by simp))
   replace hb := hb.grown hg33 hs (fun k hk => (World.ownsRow.lt r_x6_0.1 k hk).1)
   replace hk := hk.ch (Ch.of_grown hg33) hK (fun k e => nr_r_x6_0 k (.inl e))
   replace hK := Nat.le_trans hK (hg33.size)
   replace hs := Nat.le_trans hs (hg33.size)
   replace o_x2 := yF o_x2 hg33 (r_x6_0.1.ne o_x2 (by simp))
   replace o_x4 := yF o_x4 hg33 (r_x6_0.1.ne o_x4 (by simp))
   replace o_x5 := yF o_x5 hg33 (r_x6_0.1.ne o_x5 (by simp))
   replace o_x6 := yF o_x6 hg33 (r_x6_0.1.ne o_x6 (by simp))
   replace o_cb16 := yF o_cb16 hg33 (r_x6_0.1.ne o_cb16 (by simp))
   replace r_q19 := r_q19.grown hg33 (r_q19.apart r_x6_0.1 (by kernel_rfl))
   have nb_o_x9_r_x6_0 := nc_o_x9
   replace r_x6_0 := NRow.push r_x6_0 hg33 hr32 r_q19 (by kernel_rfl)
   have nr_r_x6_0 := nr2; clear nr2
   refine K26 (xC b10 0 v30 [v_x6_0] [v30] 58) r_x6_0.one (by kernel_rfl) o_x6 (by simp) rfl ?_
   intro w35 hW36
   replace hb := hb.trans (hW36.below g_x6)
   replace hk := hk.ch (Ch.of_wrote hW36) hK (fun k e h => nv_x6 (e ▸ h))
   replace hK := Nat.le_trans hK (Nat.le_of_eq hW36.size.symm)
   replace hs := Nat.le_trans hs (Nat.le_of_eq hW36.size.symm)
   replace o_x2 := zL o_x2 hW36 (zT o_x2 o_x6 (by simp))
   replace o_x4 := zL o_x4 hW36 ne_x4_x6
   replace o_x5 := zL o_x5 hW36 (zT o_x5 o_x6 (by simp))
   replace o_cb16 := zL o_cb16 hW36 (zT o_cb16 o_x6 (by simp))
   replace r_x6_0 := r_x6_0.wrote hW36 (r_x6_0.ne o_x6 (by simp))
   replace o_x6 := hW36.here
   refine zE (zP ?_)
   refine round_normal hk o_cb16 ⟨(acc ++ [((scanF x.1 x.2).1.1, (scanF x.1 x.2).1.2.1, (scanF x.1 x.2).1.2.2.1, (q19, (scanF x.1 x.2).1.2.2.2.1), (scanF x.1 x.2).1.2.2.2.2)]), v30, o_x2, o_x4, o_x5, o_x6, o_cb16, r_x6_0, nr_r_x6_0, hb, ?_, ?_⟩
   ·exact lines_snoc p1 rfl
   ·simp only [List.length_append, List.length_cons, List.length_nil]; omega
 ·intro K A hi hsz o_D0
  obtain ⟨acc, v_x6_0, o_x2, o_x4, o_x5, o_x6, o_cb16, r_x6_0, nr_r_x6_0, hb, p1, p3⟩ := hi
  have hs : w.heap.size ≤ _ := hb.size
  refine zP (zA (zF (zD (K22 (zZ b10 0 v_x6_0) (zM o_x6 rfl) (K26 (xC b4 0 v_x6_0 [(.slice none 0 0)] [v_x6_0] 58) r_x6_0.one (by kernel_rfl) o_x4 (by simp) rfl ?_)))))
  intro w37 hW38
  replace hb := hb.trans (hW38.below g_x4)
  replace hs := Nat.le_trans hs (Nat.le_of_eq hW38.size.symm)
  replace o_x5 := zL o_x5 hW38 (zT o_x5 o_x4 (by simp))
  replace o_D0 := zL o_D0 hW38 (zT o_D0 o_x4 (by simp))
  replace r_x6_0 := r_x6_0.wrote hW38 (r_x6_0.ne o_x4 (by simp))
  replace o_x4 := hW38.here
  refine K26 (xC b7 0 .nilIface [.nilIface] [.nilIface] 25) rfl (by kernel_rfl) o_x5 (by simp) rfl ?_
  intro w39 hW40
  replace hb := hb.trans (hW40.below g_x5)
  replace hs := Nat.le_trans hs (Nat.le_of_eq hW40.size.symm)
  replace o_x4 := zL o_x4 hW40 (zT o_x4 o_x5 (by simp))
  replace o_D0 := zL o_D0 hW40 (zT o_D0 o_x5 (by simp))
  replace r_x6_0 := r_x6_0.wrote hW40 (r_x6_0.ne o_x5 (by simp))
  replace o_x5 := hW40.here
  refine zE (zA (zX (K11 (end_retM (ds := [⟨.collected w13.heap.size, #[]⟩])) (Lv_mark o_D0 ?_))))
  intro w41 hW42
  replace hb := hb.trans (hW42.below hs_0)
  replace hs := Nat.le_trans hs (Nat.le_of_eq hW42.size.symm)
  replace o_x4 := zL o_x4 hW42 (zT o_x4 o_D0 (by simp))
  replace o_x5 := zL o_x5 hW42 (zT o_x5 o_D0 (by simp))
  replace r_x6_0 := r_x6_0.wrote hW42 (r_x6_0.ne o_D0 (by simp))
  refine Lv_nil [.cell 4 58, .cell 5 25] [v_x6_0, .nilIface] rfl ⟨⟨⟨b4, 0, none⟩, by kernel_rfl, load_one (by kernel_rfl) (zM o_x4 rfl)⟩, ⟨⟨b7, 0, none⟩, by kernel_rfl, load_one (by kernel_rfl) (zM o_x5 rfl)⟩, trivial⟩ ?_
  exact ⟨acc, v_x6_0, xG (rfl) (rfl), r_x6_0, (by assumption), hb⟩
 ·intro K c _ x A _ h; exact h.elim
theorem c_lines_Read_bad (f : List UInt8) (s : List UInt8) (w : World) (hs : s.length ≤ 1073741824) (hbad : (badL (toldF s)).2 ≠ 0) :
  Calls Tryz.prog 27 #[(S f), (S s)] w (Ret fun v w' => ∃ (cb0 : Nat), v = (.tuple #[(.slice none 0 0), (.iface 73 (.pointer (some ⟨cb0, 0, none⟩)))]) ∧ w'.heap[cb0]? = some (.cells [(S f), (.int .i64 ((badL (toldF s)).1)), (.int .i64 ((badL (toldF s)).2))].toArray 75 (0, 0)) ∧ w.heap.size ≤ cb0 ∧ Below w.heap.size w w') := by
 refine K11 (enterM (args := [(S f), (S s)]) Tryz.func27 rfl (by kernel_rfl : _ = 34)) ?_
 have hb := Below.refl w.heap.size w
 have hs : w.heap.size ≤ w.heap.size := Nat.le_refl _
 refine zF (zD (K21 (yW (fun b => .pointer (some ⟨b, 0, none⟩)) (.cells [(S f)].toArray 9 (0, 0))) ?_))
 intro b1 w2 hN3
 have g_x2 : w.heap.size ≤ b1 := by rw [hN3.num]; exact hs
 replace hb := hb.trans (hN3.below.mono hs)
 replace hs := Nat.le_trans hs (hN3.below.size)
 have o_x2 := hN3.here
 refine K21 (yW (fun b => .pointer (some ⟨b, 0, none⟩)) (.cells [(.slice none 0 0)].toArray 58 (0, 0))) ?_
 intro b4 w5 hN6
 have g_x4 : w.heap.size ≤ b4 := by rw [hN6.num]; exact hs
 replace hb := hb.trans (hN6.below.mono hs)
 replace hs := Nat.le_trans hs (hN6.below.size)
 replace o_x2 := zB o_x2 hN6.below
 have o_x4 := hN6.here
 refine K21 (yW (fun b => .pointer (some ⟨b, 0, none⟩)) (.cells [.nilIface].toArray 25 (0, 0))) ?_
 intro b7 w8 hN9
 have g_x5 : w.heap.size ≤ b7 := by rw [hN9.num]; exact hs
 replace hb := hb.trans (hN9.below.mono hs)
 replace hs := Nat.le_trans hs (hN9.below.size)
 replace o_x2 := zB o_x2 hN9.below
 replace o_x4 := zB o_x4 hN9.below
 have o_x5 := hN9.here
 refine zE (zA (zF (zD (K21 (yW (fun b => .pointer (some ⟨b, 0, none⟩)) (.cells [(.slice none 0 0)].toArray 58 (0, 0))) ?_))))
 intro b10 w11 hN12
 have ne_x4_x6 : NE b4 b10 := by have := (yR o_x4); have := hN12.num; show _ ≠ _; omega
 have g_x6 : w.heap.size ≤ b10 := by rw [hN12.num]; exact hs
 replace hb := hb.trans (hN12.below.mono hs)
 replace hs := Nat.le_trans hs (hN12.below.size)
 replace o_x2 := zB o_x2 hN12.below
 replace o_x4 := zB o_x4 hN12.below
 replace o_x5 := zB o_x5 hN12.below
 have o_x6 := hN12.here
 refine zE (zA (zF (zF (zD (zI (K22 (yA 58 [(S s)]) (c_lines_Each s _) ?_))))))
 rintro _ w13 ⟨cb16, rfl, o_cb16, g_cb16, hB14⟩
 replace g_cb16 := Nat.le_trans hs g_cb16
 replace hb := hb.trans (hB14.mono hs)
 replace hs := Nat.le_trans hs (hB14.size)
 replace o_x2 := zB o_x2 hB14
 replace o_x4 := zB o_x4 hB14
 replace o_x5 := zB o_x5 hB14
 replace o_x6 := zB o_x6 hB14
 refine zE (zA (yP ?_))
 have lt_x2_0 : b1 < w13.heap.size := yR o_x2
 have lt_x4_0 : b4 < w13.heap.size := yR o_x4
 have lt_x5_0 : b7 < w13.heap.size := yR o_x5
 have lt_x6_0 : b10 < w13.heap.size := yR o_x6
 have lt_cb16_0 : cb16 < w13.heap.size := yR o_cb16
 have hs_0 := hs
 have hb_0 := hb
 refine W_range 90 [(.pointer (some ⟨cb16, 0, none⟩))] (toldF s) (by kernel_rfl) (fun _ _ => rfl) (it_lines_Each_1 cb16 s (by omega)) o_cb16 ((fun D A B h hc hd => yG h hc (fun h => Nat.not_lt.2 (hd _ h) lt_cb16_0))) (by intro x; rfl) (fun K pre A => ∃ (acc : List LineV) (v_x6_0 : Value), (A.heap[b1]? = some (.cells [(S f)].toArray 9 (0, 0))) ∧ (A.heap[b4]? = some (.cells [(.slice none 0 0)].toArray 58 (0, 0))) ∧ (A.heap[b7]? = some (.cells [.nilIface].toArray 25 (0, 0))) ∧ (A.heap[b10]? = some (.cells [v_x6_0].toArray 58 (0, 0))) ∧ (A.heap[cb16]? = some (.cells [(S s)].toArray 9 (0, 0))) ∧ (NRow 9 A w.heap.size 72 5 encLine v_x6_0 acc) ∧ (∀ g, NOwn v_x6_0 acc g → ¬ Iv w13.heap.size K g) ∧ (Below w.heap.size w A) ∧ ((badL pre).2 = 0) ∧ (acc.length ≤ pre.length)) (fun K c pre A => (∃ (bq : Nat) (no : Int) (e : Int), (c = .ret) ∧ (A.heap[b1]? = some (.cells [(S f)].toArray 9 (0, 0))) ∧ (A.heap[b4]? = some (.cells [(.slice none 0 0)].toArray 58 (0, 0))) ∧ (A.heap[b7]? = some (.cells [(.iface 73 (.pointer (some ⟨bq, 0, none⟩)))].toArray 25 (0, 0))) ∧ (A.heap[cb16]? = some (.cells [(S s)].toArray 9 (0, 0))) ∧ (A.heap[bq]? = some (.cells [(S f), (.int .i64 no), (.int .i64 e)].toArray 75 (0, 0))) ∧ (w.heap.size ≤ bq) ∧ (¬ Iv w13.heap.size K bq) ∧ (Below w.heap.size w A) ∧ (badL pre = (no, e)) ∧ (e ≠ 0))) ?_ ?_ ?_ ?_ ?_ ?_
 ·intro A hA
  exact ⟨[], (.slice none 0 0), zB o_x2 hA, zB o_x4 hA, zB o_x5 hA, zB o_x6 hA, zB o_cb16 hA, NRow.nil _ _ _ _ _ _, nrN_nil _ _, hb.trans (hA.mono hs), by rfl, by exact Nat.le_refl _⟩
 ·rintro K pre A B ⟨acc, v_x6_0, o_x2, o_x4, o_x5, o_x6, o_cb16, r_x6_0, nr_r_x6_0, hb, p2, p3⟩ hc
  exact ⟨acc, v_x6_0, yG o_x2 hc (fun h => Nat.not_lt.2 h.1 lt_x2_0), yG o_x4 hc (fun h => Nat.not_lt.2 h.1 lt_x4_0), yG o_x5 hc (fun h => Nat.not_lt.2 h.1 lt_x5_0), yG o_x6 hc (fun h => Nat.not_lt.2 h.1 lt_x6_0), yG o_cb16 hc (fun h => Nat.not_lt.2 h.1 lt_cb16_0), r_x6_0.ch hc nr_r_x6_0, nr_r_x6_0, hc.below hb hb.size (fun k h => Nat.le_trans hs_0 h.1), p2, p3⟩
 ·rintro K c pre A B (⟨bq, no, e, hcc, o_x2, o_x4, o_x5, o_cb16, o_N0, g_N0, nv_N0, hb, q1, q2⟩) hc
  exact ⟨bq, no, e, hcc, yG o_x2 hc (fun h => Nat.not_lt.2 h.1 lt_x2_0), yG o_x4 hc (fun h => Nat.not_lt.2 h.1 lt_x4_0), yG o_x5 hc (fun h => Nat.not_lt.2 h.1 lt_x5_0), yG o_cb16 hc (fun h => Nat.not_lt.2 h.1 lt_cb16_0), yG o_N0 hc nv_N0, g_N0, nv_N0, hc.below hb hb.size (fun k h => Nat.le_trans hs_0 h.1), q1, q2⟩
 ·intro l K pre x A hi hN hK0 hK hpre
  obtain ⟨acc, v_x6_0, o_x2, o_x4, o_x5, o_x6, o_cb16, r_x6_0, nr_r_x6_0, hb, p2, p3⟩ := hi
  have hs := hb.size
  have hk := Kp.refl (w13.heap.size) K A
  have nv_x2 : ¬ Iv (w13.heap.size) K b1 := fun h => Nat.not_lt.2 h.1 lt_x2_0
  have nv_x4 : ¬ Iv (w13.heap.size) K b4 := fun h => Nat.not_lt.2 h.1 lt_x4_0
  have nv_x5 : ¬ Iv (w13.heap.size) K b7 := fun h => Nat.not_lt.2 h.1 lt_x5_0
  have nv_x6 : ¬ Iv (w13.heap.size) K b10 := fun h => Nat.not_lt.2 h.1 lt_x6_0
  have nv_cb16 : ¬ Iv (w13.heap.size) K cb16 := fun h => Nat.not_lt.2 h.1 lt_cb16_0
  replace o_cb16 := hN
  have hsh := told_short (pre_mem hpre)
  have hpl := pre_lt hpre
  have htl := told_len s
  refine zF (zD (zJ (zE (zA (zD (zJ (zE ?_)))))))
  refine zA ⟨hk, ?_⟩
  intro w17 hc18
  replace o_x2 := yG o_x2 hc18 nv_x2
  replace o_x4 := yG o_x4 hc18 nv_x4
  replace o_x5 := yG o_x5 hc18 nv_x5
  replace o_x6 := yG o_x6 hc18 nv_x6
  replace o_cb16 := yG o_cb16 hc18 nv_cb16
  replace r_x6_0 := r_x6_0.ch hc18 nr_r_x6_0
  replace hb := hc18.below hb hs (fun k h => Nat.le_trans hs_0 h.1)
  replace hs := hb.size
  replace hK := Nat.le_trans hK hc18.size
  replace hk := Kp.refl (w13.heap.size) K w17
  refine yP (zF (zD (zI (zI (K22 (yA 59 [(.int .i64 x.1), (S x.2)]) (c_lines_Scan x.1 x.2 _ (by omega)) ?_)))))
  rintro _ w20 ⟨q19, rfl, r_q19, hB21⟩
  have nr_r_q19 := nr_row (K0 := w13.heap.size) r_q19 hK
  have nb_o_x2_r_q19 := Row.nb_call r_q19 o_x2
  have nb_o_cb16_r_q19 := Row.nb_call r_q19 o_cb16
  replace r_q19 := r_q19.base hs
  replace hb := hb.trans (hB21.mono hs)
  replace hk := hk.ch (Ch.of_below hB21) hK (fun _ h => h.elim)
  replace hK := Nat.le_trans hK (hB21.size)
  replace hs := Nat.le_trans hs (hB21.size)
  replace o_x2 := zB o_x2 hB21
  replace o_x4 := zB o_x4 hB21
  replace o_x5 := zB o_x5 hB21
  replace o_x6 := zB o_x6 hB21
  replace o_cb16 := zB o_cb16 hB21
  replace r_x6_0 := r_x6_0.below hB21
  have := scan_err x.1 x.2
  refine zI (K21 (zQ (Value.agg #[(.int .i64 ((scanF x.1 x.2).1.1)), (.int .u8 ((scanF x.1 x.2).1.2.1)), (S ((scanF x.1 x.2).1.2.2.1)), q19, (S ((scanF x.1 x.2).1.2.2.2.2))])) (K21 (zQ (.int .i64 ((scanF x.1 x.2).2))) (K21 (yW (fun b => .pointer (some ⟨b, 0, none⟩)) (.cells [(.int .i64 0), (.int .u8 0), (S ([] : List UInt8)), (.slice none 0 0), (S ([] : List UInt8))].toArray 72 (0, 0))) ?_)))
  intro b23 w24 hN25
  have g_x9 : w.heap.size ≤ b23 := by rw [hN25.num]; exact hs
  have nv_x9 : ¬ Iv w13.heap.size K b23 := fun h => by have := h.2; have := hN25.num; omega
  have nb_o_x9_r_x6_0 := r_x6_0.new_ne hN25
  replace hb := hb.trans (hN25.below.mono hs)
  replace hk := hk.ch (Ch.of_below hN25.below) hK (fun _ h => h.elim)
  replace hK := Nat.le_trans hK (hN25.below.size)
  replace hs := Nat.le_trans hs (hN25.below.size)
  replace o_x2 := zB o_x2 hN25.below
  replace o_x4 := zB o_x4 hN25.below
  replace o_x5 := zB o_x5 hN25.below
  replace o_x6 := zB o_x6 hN25.below
  replace o_cb16 := zB o_cb16 hN25.below
  replace r_x6_0 := r_x6_0.below hN25.below
  replace r_q19 := r_q19.below hN25.below
  have o_x9 := hN25.here
  refine K26 (yX b23 0 [(.int .i64 ((scanF x.1 x.2).1.1)), (.int .u8 ((scanF x.1 x.2).1.2.1)), (S ((scanF x.1 x.2).1.2.2.1)), q19, (S ((scanF x.1 x.2).1.2.2.2.2))] [(.int .i64 0), (.int .u8 0), (S ([] : List UInt8)), (.slice none 0 0), (S ([] : List UInt8))] [(.int .i64 ((scanF x.1 x.2).1.1)), (.int .u8 ((scanF x.1 x.2).1.2.1)), (S ((scanF x.1 x.2).1.2.2.1)), q19, (S ((scanF x.1 x.2).1.2.2.2.2))] 72) (allc rfl (allc rfl (allc rfl (allc r_q19.one (allc rfl rfl))))) (by kernel_rfl) o_x9 (by kernel_rfl) rfl ?_
  intro w26 hW27
  replace hb := hb.trans (hW27.below g_x9)
  replace hk := hk.ch (Ch.of_wrote hW27) hK (fun k e h => nv_x9 (e ▸ h))
  replace hK := Nat.le_trans hK (Nat.le_of_eq hW27.size.symm)
  replace hs := Nat.le_trans hs (Nat.le_of_eq hW27.size.symm)
  replace o_x2 := zL o_x2 hW27 (zT o_x2 o_x9 (by simp))
  replace o_x4 := zL o_x4 hW27 (zT o_x4 o_x9 (by simp))
  replace o_x5 := zL o_x5 hW27 (zT o_x5 o_x9 (by simp))
  replace o_x6 := zL o_x6 hW27 (zT o_x6 o_x9 (by simp))
  replace o_cb16 := zL o_cb16 hW27 (zT o_cb16 o_x9 (by simp))
  replace r_x6_0 := r_x6_0.wrote hW27 nb_o_x9_r_x6_0
  replace r_q19 := r_q19.wrote hW27 (r_q19.ne o_x9 (by simp))
  replace o_x9 := hW27.here
  refine zJ (zE (zA (zF (zF (zD (zI (K22 (yD .i64 ((scanF x.1 x.2).2) 0 ((scanF x.1 x.2).2 ≠ 0) rfl (cmp_ne ((scanF x.1 x.2).2) 0)) ?_ ?_)))))))
  ·intro h28
   replace h28 : (scanF x.1 x.2).2 ≠ 0 := by omega
   refine zE (zA (K11 zS (zF (K31 (W_draws 8) ?_))))
   intro w29 hB30
   replace hb := hb.trans (hB30.mono hs)
   replace hk := hk.ch (Ch.of_below hB30) hK (fun _ h => h.elim)
   replace hK := Nat.le_trans hK (hB30.size)
   replace hs := Nat.le_trans hs (hB30.size)
   replace o_x2 := zB o_x2 hB30
   replace o_x4 := zB o_x4 hB30
   replace o_x5 := zB o_x5 hB30
   replace o_cb16 := zB o_cb16 hB30
   refine K44 (yE 1 (.int .i64 x.1) rfl) (zC (zC (zG noPanic_round))) (by kernel_rfl) (fun _ => by kernel_rfl) ?_
   refine K44 (yE 2 (.int .i64 ((scanF x.1 x.2).2)) rfl) (zC (zC (zG noPanic_round))) (by kernel_rfl) (fun _ => by kernel_rfl) ?_
   refine K12 (I_all2 0 6) ?_ ?_
   ·skip
    refine yZ 0 rfl ?_ rfl
    refine K22 (zZ b1 0 (S f)) (zM o_x2 rfl) (zE ?_)
    refine ⟨rfl, ?_⟩
    refine K44 (yE 3 (Value.agg #[(S f), (.int .i64 x.1), (.int .i64 ((scanF x.1 x.2).2))]) rfl) (zC (zC (zG noPanic_round))) (by kernel_rfl) (fun _ => by kernel_rfl) ?_
    refine K12 (I_all2 4 6) ?_ ?_
    ·skip
     refine yZ 4 rfl ?_ rfl
     refine K21 (yW (fun b => .pointer (some ⟨b, 0, none⟩)) (.cells [(S f), (.int .i64 x.1), (.int .i64 ((scanF x.1 x.2).2))].toArray 75 (0, 0))) ?_
     intro b31 w32 hN33
     have g_x27 : w.heap.size ≤ b31 := by rw [hN33.num]; exact hs
     have nv_x27 : ¬ Iv w13.heap.size K b31 := fun h => by have := h.2; have := hN33.num; omega
     replace hb := hb.trans (hN33.below.mono hs)
     replace hk := hk.ch (Ch.of_below hN33.below) hK (fun _ h => h.elim)
     replace hK := Nat.le_trans hK (hN33.below.size)
     replace hs := Nat.le_trans hs (hN33.below.size)
     replace o_x2 := zB o_x2 hN33.below
     replace o_x4 := zB o_x4 hN33.below
     replace o_x5 := zB o_x5 hN33.below
     replace o_cb16 := zB o_cb16 hN33.below
     have o_x27 := hN33.here
     refine zE ?_
     refine ⟨rfl, ?_⟩
     refine K44 (yE 5 (.iface 73 (.pointer (some ⟨b31, 0, none⟩))) rfl) (zC (zC (zG noPanic_round))) (by kernel_rfl) (fun _ => by kernel_rfl) ?_
     refine K11 (yJ 6) ?_
     refine yZ 6 rfl ?_ rfl
     refine K26 (xC b4 0 (.slice none 0 0) [(.slice none 0 0)] [(.slice none 0 0)] 58) rfl (by kernel_rfl) o_x4 (by simp) rfl ?_
     intro w34 hW35
     replace hb := hb.trans (hW35.below g_x4)
     replace hk := hk.ch (Ch.of_wrote hW35) hK (fun k e h => nv_x4 (e ▸ h))
     replace hK := Nat.le_trans hK (Nat.le_of_eq hW35.size.symm)
     replace hs := Nat.le_trans hs (Nat.le_of_eq hW35.size.symm)
     replace o_x2 := zL o_x2 hW35 (zT o_x2 o_x4 (by simp))
     replace o_x5 := zL o_x5 hW35 (zT o_x5 o_x4 (by simp))
     replace o_cb16 := zL o_cb16 hW35 (zT o_cb16 o_x4 (by simp))
     replace o_x27 := zL o_x27 hW35 (zT o_x27 o_x4 (by simp))
     replace o_x4 := hW35.here
     refine zE ?_
     refine ⟨rfl, ?_⟩
     refine K11 (yJ 7) ?_
     refine yZ 7 rfl ?_ rfl
     refine K26 (xC b7 0 (.iface 73 (.pointer (some ⟨b31, 0, none⟩))) [.nilIface] [(.iface 73 (.pointer (some ⟨b31, 0, none⟩)))] 25) rfl (by kernel_rfl) o_x5 (by simp) rfl ?_
     intro w36 hW37
     replace hb := hb.trans (hW37.below g_x5)
     replace hk := hk.ch (Ch.of_wrote hW37) hK (fun k e h => nv_x5 (e ▸ h))
     replace hK := Nat.le_trans hK (Nat.le_of_eq hW37.size.symm)
     replace hs := Nat.le_trans hs (Nat.le_of_eq hW37.size.symm)
     replace o_x2 := zL o_x2 hW37 (zT o_x2 o_x5 (by simp))
     replace o_x4 := zL o_x4 hW37 (zT o_x4 o_x5 (by simp))
     replace o_cb16 := zL o_cb16 hW37 (zT o_cb16 o_x5 (by simp))
     replace o_x27 := zL o_x27 hW37 (zT o_x27 o_x5 (by simp))
     replace o_x5 := hW37.here
     refine zE ?_
     refine ⟨rfl, ?_⟩
     refine K11 yQ ?_
     refine zA (zX (zH (zU ?_)))
     refine round_ret hk (⟨b31, x.1, ((scanF x.1 x.2).2), rfl, o_x2, o_x4, o_x5, o_cb16, o_x27, g_x27, nv_x27, hb, ?_, ?_⟩)
     ·exact bad_snoc p2 (by assumption)
     ·assumption
    ·skip
     refine yZ 6 rfl ?_ rfl
     refine K26 (xC b4 0 (.slice none 0 0) [(.slice none 0 0)] [(.slice none 0 0)] 58) rfl (by kernel_rfl) o_x4 (by simp) rfl ?_
     intro w38 hW39
     replace hb := hb.trans (hW39.below g_x4)
     replace hk := hk.ch (Ch.of_wrote hW39) hK (fun k e h => nv_x4 (e ▸ h))
     replace hK := Nat.le_trans hK (Nat.le_of_eq hW39.size.symm)
     replace hs := Nat.le_trans hs (Nat.le_of_eq hW39.size.symm)
     replace o_x2 := zL o_x2 hW39 (zT o_x2 o_x4 (by simp))
     replace o_x5 := zL o_x5 hW39 (zT o_x5 o_x4 (by simp))
     replace o_cb16 := zL o_cb16 hW39 (zT o_cb16 o_x4 (by simp))
     replace o_x4 := hW39.here
     refine zE ?_
     refine ⟨rfl, ?_⟩
     refine K11 (yJ 4) ?_
     refine yZ 4 rfl ?_ rfl
     refine K21 (yW (fun b => .pointer (some ⟨b, 0, none⟩)) (.cells [(S f), (.int .i64 x.1), (.int .i64 ((scanF x.1 x.2).2))].toArray 75 (0, 0))) ?_
     intro b40 w41 hN42
     have g_x27 : w.heap.size ≤ b40 := by rw [hN42.num]; exact hs
     have nv_x27 : ¬ Iv w13.heap.size K b40 := fun h => by have := h.2; have := hN42.num; omega
     replace hb := hb.trans (hN42.below.mono hs)
     replace hk := hk.ch (Ch.of_below hN42.below) hK (fun _ h => h.elim)
     replace hK := Nat.le_trans hK (hN42.below.size)
     replace hs := Nat.le_trans hs (hN42.below.size)
     replace o_x2 := zB o_x2 hN42.below
     replace o_x4 := zB o_x4 hN42.below
     replace o_x5 := zB o_x5 hN42.below
     replace o_cb16 := zB o_cb16 hN42.below
     have o_x27 := hN42.here
     refine zE ?_
     refine ⟨rfl, ?_⟩
     refine K44 (yE 5 (.iface 73 (.pointer (some ⟨b40, 0, none⟩))) rfl) (zC (zC (zG noPanic_round))) (by kernel_rfl) (fun _ => by kernel_rfl) ?_
     refine K11 (yJ 7) ?_
     refine yZ 7 rfl ?_ rfl
     refine K26 (xC b7 0 (.iface 73 (.pointer (some ⟨b40, 0, none⟩))) [.nilIface] [(.iface 73 (.pointer (some ⟨b40, 0, none⟩)))] 25) rfl (by kernel_rfl) o_x5 (by simp) rfl ?_
     intro w43 hW44
     replace hb := hb.trans (hW44.below g_x5)
     replace hk := hk.ch (Ch.of_wrote hW44) hK (fun k e h => nv_x5 (e ▸ h))
     replace hK := Nat.le_trans hK (Nat.le_of_eq hW44.size.symm)
     replace hs := Nat.le_trans hs (Nat.le_of_eq hW44.size.symm)
     replace o_x2 := zL o_x2 hW44 (zT o_x2 o_x5 (by simp))
     replace o_x4 := zL o_x4 hW44 (zT o_x4 o_x5 (by simp))
     replace o_cb16 := zL o_cb16 hW44 (zT o_cb16 o_x5 (by simp))
     replace o_x27 := zL o_x27 hW44 (zT o_x27 o_x5 (by simp))
     replace o_x5 := hW44.here
     refine zE ?_
     refine ⟨rfl, ?_⟩
     refine K11 yQ ?_
     refine zA (zX (zH (zU ?_)))
     refine round_ret hk (⟨b40, x.1, ((scanF x.1 x.2).2), rfl, o_x2, o_x4, o_x5, o_cb16, o_x27, g_x27, nv_x27, hb, ?_, ?_⟩)
     ·exact bad_snoc p2 (by assumption)
     ·assumption
   ·skip
    refine yZ 6 rfl ?_ rfl
    refine K26 (xC b4 0 (.slice none 0 0) [(.slice none 0 0)] [(.slice none 0 0)] 58) rfl (by kernel_rfl) o_x4 (by simp) rfl ?_
    intro w45 hW46
    replace hb := hb.trans (hW46.below g_x4)
    replace hk := hk.ch (Ch.of_wrote hW46) hK (fun k e h => nv_x4 (e ▸ h))
    replace hK := Nat.le_trans hK (Nat.le_of_eq hW46.size.symm)
    replace hs := Nat.le_trans hs (Nat.le_of_eq hW46.size.symm)
    replace o_x2 := zL o_x2 hW46 (zT o_x2 o_x4 (by simp))
    replace o_x5 := zL o_x5 hW46 (zT o_x5 o_x4 (by simp))
    replace o_cb16 := zL o_cb16 hW46 (zT o_cb16 o_x4 (by simp))
    replace o_x4 := hW46.here
    refine zE ?_
    refine ⟨rfl, ?_⟩
    refine K11 (yJ 0) ?_
    refine yZ 0 rfl ?_ rfl
    refine K22 (zZ b1 0 (S f)) (zM o_x2 rfl) (zE ?_)
    refine ⟨rfl, ?_⟩
    refine K44 (yE 3 (Value.agg #[(S f), (.int .i64 x.1), (.int .i64 ((scanF x.1 x.2).2))]) rfl) (zC (zC (zG noPanic_round))) (by kernel_rfl) (fun _ => by kernel_rfl) ?_
    refine K11 (yJ 4) ?_
    refine yZ 4 rfl ?_ rfl
    refine K21 (yW (fun b => .pointer (some ⟨b, 0, none⟩)) (.cells [(S f), (.int .i64 x.1), (.int .i64 ((scanF x.1 x.2).2))].toArray 75 (0, 0))) ?_
    intro b47 w48 hN49
    have g_x27 : w.heap.size ≤ b47 := by rw [hN49.num]; exact hs
    have nv_x27 : ¬ Iv w13.heap.size K b47 := fun h => by have := h.2; have := hN49.num; omega
    replace hb := hb.trans (hN49.below.mono hs)
    replace hk := hk.ch (Ch.of_below hN49.below) hK (fun _ h => h.elim)
    replace hK := Nat.le_trans hK (hN49.below.size)
    replace hs := Nat.le_trans hs (hN49.below.size)
    replace o_x2 := zB o_x2 hN49.below
    replace o_x4 := zB o_x4 hN49.below
    replace o_x5 := zB o_x5 hN49.below
    replace o_cb16 := zB o_cb16 hN49.below
    have o_x27 := hN49.here
    refine zE ?_
    refine ⟨rfl, ?_⟩
    refine K44 (yE 5 (.iface 73 (.pointer (some ⟨b47, 0, none⟩))) rfl) (zC (zC (zG noPanic_round))) (by kernel_rfl) (fun _ => by kernel_rfl) ?_
    refine K11 (yJ 7) ?_
    refine yZ 7 rfl ?_ rfl
    refine K26 (xC b7 0 (.iface 73 (.pointer (some ⟨b47, 0, none⟩))) [.nilIface] [(.iface 73 (.pointer (some ⟨b47, 0, none⟩)))] 25) rfl (by kernel_rfl) o_x5 (by simp) rfl ?_
    intro w50 hW51
    replace hb := hb.trans (hW51.below g_x5)
    replace hk := hk.ch (Ch.of_wrote hW51) hK (fun k e h => nv_x5 (e ▸ h))
    replace hK := Nat.le_trans hK (Nat.le_of_eq hW51.size.symm)
    replace hs := Nat.le_trans hs (Nat.le_of_eq hW51.size.symm)
    replace o_x2 := zL o_x2 hW51 (zT o_x2 o_x5 (by simp))
    replace o_x4 := zL o_x4 hW51 (zT o_x4 o_x5 (by simp))
    replace o_cb16 := zL o_cb16 hW51 (zT o_cb16 o_x5 (by simp))
    replace o_x27 := zL o_x27 hW51 (zT o_x27 o_x5 (by simp))
    replace o_x5 := hW51.here
    refine zE ?_
    refine ⟨rfl, ?_⟩
    refine K11 yQ ?_
    refine zA (zX (zH (zU ?_)))
    refine round_ret hk (⟨b47, x.1, ((scanF x.1 x.2).2), rfl, o_x2, o_x4, o_x5, o_cb16, o_x27, g_x27, nv_x27, hb, ?_, ?_⟩)
    ·exact bad_snoc p2 (by assumption)
    ·assumption
  ·intro h52
   replace h52 : (scanF x.1 x.2).2 = 0 := by omega
   refine zE (zA (K11 zN (zV (zA (zD (K22 (zZ b10 0 v_x6_0) (zM o_x6 rfl) (K32 (yH b23 0 [(.int .i64 ((scanF x.1 x.2).1.1)), (.int .u8 ((scanF x.1 x.2).1.2.1)), (S ((scanF x.1 x.2).1.2.2.1)), q19, (S ((scanF x.1 x.2).1.2.2.2.2))]) (K10 (yN o_x9 0)) (K21 (L_app el58 w.heap.size v_x6_0 acc ((scanF x.1 x.2).1.1, (scanF x.1 x.2).1.2.1, (scanF x.1 x.2).1.2.2.1, (q19, (scanF x.1 x.2).1.2.2.2.1), (scanF x.1 x.2).1.2.2.2.2) hs r_x6_0.1 (by omega) (by kernel_rfl) rfl (allc rfl (allc rfl (allc rfl (allc r_q19.one (allc rfl rfl))))) (by kernel_rfl) rfl) ?_))))))))
   intro v53 w54 hr55 hg56 how57
   have nr2 := nrN_push (x := ((scanF x.1 x.2).1.1, (scanF x.1 x.2).1.2.1, (scanF x.1 x.2).1.2.2.1, (q19, (scanF x.1 x.2).1.2.2.2.1), (scanF x.1 x.2).1.2.2.2.2)) nr_r_x6_0 (nr_app how57 (fun g e => nr_r_x6_0 g (.inl e)) hK) nr_r_q19
   have nc_o_x9 := ownb_app how57 (fun e => nb_o_x9_r_x6_0 (.inl e)) (yR o_x9)
   have nc_o_x9 := nbN_push (x := ((scanF x.1 x.2).1.1, (scanF x.1 x.2).1.2.1, (scanF x.1 x.2).1.2.2.1, (q19, (scanF x.1 x.2).1.2.2.2.1), (scanF x.1 x.2).1.2.2.2.2)) nb_o_x9_r_x6_0 nc_o_x9 (r_q19.ne o_x9 (by simp))
   replace hb := hb.grown hg56 hs (fun k hk => (World.ownsRow.lt r_x6_0.1 k hk).1)
   replace hk := hk.ch (Ch.of_grown hg56) hK (fun k e => nr_r_x6_0 k (.inl e))
   replace hK := Nat.le_trans hK (hg56.size)
   replace hs := Nat.le_trans hs (hg56.size)
   replace o_x2 := yF o_x2 hg56 (r_x6_0.1.ne o_x2 (by simp))
   replace o_x4 := yF o_x4 hg56 (r_x6_0.1.ne o_x4 (by simp))
   replace o_x5 := yF o_x5 hg56 (r_x6_0.1.ne o_x5 (by simp))
   replace o_x6 := yF o_x6 hg56 (r_x6_0.1.ne o_x6 (by simp))
   replace o_cb16 := yF o_cb16 hg56 (r_x6_0.1.ne o_cb16 (by simp))
   replace r_q19 := r_q19.grown hg56 (r_q19.apart r_x6_0.1 (by kernel_rfl))
   have nb_o_x9_r_x6_0 := nc_o_x9
   replace r_x6_0 := NRow.push r_x6_0 hg56 hr55 r_q19 (by kernel_rfl)
   have nr_r_x6_0 := nr2; clear nr2
   refine K26 (xC b10 0 v53 [v_x6_0] [v53] 58) r_x6_0.one (by kernel_rfl) o_x6 (by simp) rfl ?_
   intro w58 hW59
   replace hb := hb.trans (hW59.below g_x6)
   replace hk := hk.ch (Ch.of_wrote hW59) hK (fun k e h => nv_x6 (e ▸ h))
   replace hK := Nat.le_trans hK (Nat.le_of_eq hW59.size.symm)
   replace hs := Nat.le_trans hs (Nat.le_of_eq hW59.size.symm)
   replace o_x2 := zL o_x2 hW59 (zT o_x2 o_x6 (by simp))
   replace o_x4 := zL o_x4 hW59 ne_x4_x6
   replace o_x5 := zL o_x5 hW59 (zT o_x5 o_x6 (by simp))
   replace o_cb16 := zL o_cb16 hW59 (zT o_cb16 o_x6 (by simp))
   replace r_x6_0 := r_x6_0.wrote hW59 (r_x6_0.ne o_x6 (by simp))
   replace o_x6 := hW59.here
   refine zE (zP ?_)
   refine round_normal hk o_cb16 ⟨(acc ++ [((scanF x.1 x.2).1.1, (scanF x.1 x.2).1.2.1, (scanF x.1 x.2).1.2.2.1, (q19, (scanF x.1 x.2).1.2.2.2.1), (scanF x.1 x.2).1.2.2.2.2)]), v53, o_x2, o_x4, o_x5, o_x6, o_cb16, r_x6_0, nr_r_x6_0, hb, ?_, ?_⟩
   ·exact bad_snoc_ok p2 (by assumption)
   ·simp only [List.length_append, List.length_cons, List.length_nil]; omega
 ·intro K A hi hsz o_D0
  obtain ⟨acc, v_x6_0, o_x2, o_x4, o_x5, o_x6, o_cb16, r_x6_0, nr_r_x6_0, hb, p2, p3⟩ := hi
  have hs : w.heap.size ≤ _ := hb.size
  exfalso; exact hbad p2
 ·intro K c pre0 x0 A hpre hx hsz o_D0
  obtain ⟨pre, hpreq⟩ : ∃ pre, pre = pre0 ++ [x0] := ⟨_, rfl⟩
  rw [← hpreq] at hpre; try rw [← hpreq] at hx
  rcases hx with ⟨bq, no, e, rfl, o_x2, o_x4, o_x5, o_cb16, o_N0, g_N0, nv_N0, hb, q1, q2⟩
  have hs : w.heap.size ≤ _ := hb.size
  have hbp := bad_pre hpre (by rw [q1]; exact q2)
  rw [q1] at hbp
  obtain rfl : no = (badL (toldF s)).1 := by rw [hbp]
  obtain rfl : e = (badL (toldF s)).2 := by rw [hbp]
  refine zX (zU (zH (K11 (end_retM (ds := [⟨.collected w13.heap.size, #[]⟩])) (Lv_mark o_D0 ?_))))
  intro w60 hW61
  replace hb := hb.trans (hW61.below hs_0)
  replace hs := Nat.le_trans hs (Nat.le_of_eq hW61.size.symm)
  replace o_x4 := zL o_x4 hW61 (zT o_x4 o_D0 (by simp))
  replace o_x5 := zL o_x5 hW61 (zT o_x5 o_D0 (by simp))
  replace o_N0 := zL o_N0 hW61 (zT o_N0 o_D0 (by simp))
  refine Lv_nil [.cell 4 58, .cell 5 25] [(.slice none 0 0), (.iface 73 (.pointer (some ⟨bq, 0, none⟩)))] rfl ⟨⟨⟨b4, 0, none⟩, by kernel_rfl, load_one (by kernel_rfl) (zM o_x4 rfl)⟩, ⟨⟨b7, 0, none⟩, by kernel_rfl, load_one (by kernel_rfl) (zM o_x5 rfl)⟩, trivial⟩ ?_
  exact ⟨bq, xG (rfl) (rfl), o_N0, g_N0, hb⟩
end Go.Proofs.YtkclikfejmeblaaGreatDoor
end

/- === Wccor === -/
section
/- Walks, written by my program walk.py out of the specification ccor.py: each theorem says what one function returns and that it leaves memory as it was. -/
namespace Go.Proofs.YtkclikfejmeblaaGreatDoor
open Go Go.RowKit Go.FK
set_option maxHeartbeats 4000000
set_option maxRecDepth 100000
set_option linter.unusedVariables false
set_option linter.unusedSimpArgs false
def laysRev_ren : Go.Shelf.Ren := ⟨fun | 35 => 112 | n => n, fun | 22 => 84 | 23 => 5 | n => n, fun | n => n⟩
theorem laysRev : Go.Proofs.SlLaysE.n35 Tryz.prog laysRev_ren := {
 mixed := by kernel_rfl
 f35 := ⟨Tryz.f112.name, by kernel_rfl, Tryz.func112.trans (congrArg some (by kernel_rfl))⟩
 t0 := Tryz.underlying0
 a0 := Tryz.isAgg0
 z0 := Tryz.sizeOf0
 v0 := Tryz.zeroValue0
 t3 := Tryz.underlying3
 a3 := Tryz.isAgg3
 z3 := Tryz.sizeOf3
 v3 := Tryz.zeroValue3
 t4 := Tryz.underlying4
 a4 := Tryz.isAgg4
 z4 := Tryz.sizeOf4
 v4 := Tryz.zeroValue4
 t22 := Tryz.underlying84
 a22 := Tryz.isAgg84
 z22 := Tryz.sizeOf84
 v22 := Tryz.zeroValue84
 a23 := Tryz.isAgg5
 z23 := Tryz.sizeOf5 }
theorem el47 : Elem Tryz.prog 47 21 1 4 := ⟨Tryz.underlying47, by kernel_rfl, rfl⟩
theorem el84 : Elem Tryz.prog 84 5 1 1 := ⟨Tryz.underlying84, by kernel_rfl, rfl⟩
theorem c_words_Blank (r : Int) (w : World) :
  Calls Tryz.prog 168 #[(.int .i32 r)] w (Ret fun v w' => v = (.bool (blankB r)) ∧ Below w.heap.size w w') := by
 refine K11 (enter (args := [(.int .i32 r)]) Tryz.func168 rfl (by kernel_rfl : _ = 23)) ?_
 have hb := Below.refl w.heap.size w
 have hs : w.heap.size ≤ w.heap.size := Nat.le_refl _
 refine zF (zD (zJ (zE (zA (zF (zF (zD (zI (zE (zA (yP (zF (zF (zD (K22 (yD .i32 r 9 (r = 9) rfl (xB r 9)) ?_ ?_)))))))))))))))
 ·intro h1
  replace h1 : r = 9 := by omega
  refine zJ (zE (zA (K11 zS (zV (zA (K11 zS (zF (zD (zJ (zE (zA (zX (zU (zH ?_))))))))))))))
  refine zO [.tmp 2] [(.bool true)] rfl rfl ⟨by kernel_rfl, trivial⟩ ?_
  have e0 : true = blankB r := by simp only [blankB]; simp [*] <;> omega
  exact ⟨congrArg Value.bool e0, hb⟩
 ·intro h2
  replace h2 : r ≠ 9 := by omega
  refine zJ (zE (zA (K11 zN (zF (zD (K22 (yD .i32 r 11 (r = 11) rfl (xB r 11)) ?_ ?_))))))
  ·intro h3
   replace h3 : r = 11 := by omega
   refine zJ (zE (zA (K11 zS (zV (zA (K11 zS (zF (zD (zJ (zE (zA (zX (zU (zH ?_))))))))))))))
   refine zO [.tmp 2] [(.bool true)] rfl rfl ⟨by kernel_rfl, trivial⟩ ?_
   have e0 : true = blankB r := by simp only [blankB]; simp [*] <;> omega
   exact ⟨congrArg Value.bool e0, hb⟩
  ·intro h4
   replace h4 : r ≠ 11 := by omega
   refine zJ (zE (zA (K11 zN (zF (zD (K22 (yD .i32 r 12 (r = 12) rfl (xB r 12)) ?_ ?_))))))
   ·intro h5
    replace h5 : r = 12 := by omega
    refine zJ (zE (zA (K11 zS (zV (zA (K11 zS (zF (zD (zJ (zE (zA (zX (zU (zH ?_))))))))))))))
    refine zO [.tmp 2] [(.bool true)] rfl rfl ⟨by kernel_rfl, trivial⟩ ?_
    have e0 : true = blankB r := by simp only [blankB]; simp [*] <;> omega
    exact ⟨congrArg Value.bool e0, hb⟩
   ·intro h6
    replace h6 : r ≠ 12 := by omega
    refine zJ (zE (zA (K11 zN (zF (zD (K22 (yD .i32 r 32 (r = 32) rfl (xB r 32)) ?_ ?_))))))
    ·intro h7
     replace h7 : r = 32 := by omega
     refine zJ (zE (zA (K11 zS (zV (zA (K11 zS (zF (zD (zJ (zE (zA (zX (zU (zH ?_))))))))))))))
     refine zO [.tmp 2] [(.bool true)] rfl rfl ⟨by kernel_rfl, trivial⟩ ?_
     have e0 : true = blankB r := by simp only [blankB]; simp [*] <;> omega
     exact ⟨congrArg Value.bool e0, hb⟩
    ·intro h8
     replace h8 : r ≠ 32 := by omega
     refine zJ (zE (zA (K11 zN (zF (zD (K22 (yD .i32 r 133 (r = 133) rfl (xB r 133)) ?_ ?_))))))
     ·intro h9
      replace h9 : r = 133 := by omega
      refine zJ (zE (zA (K11 zS (zV (zA (K11 zS (zF (zD (zJ (zE (zA (zX (zU (zH ?_))))))))))))))
      refine zO [.tmp 2] [(.bool true)] rfl rfl ⟨by kernel_rfl, trivial⟩ ?_
      have e0 : true = blankB r := by simp only [blankB]; simp [*] <;> omega
      exact ⟨congrArg Value.bool e0, hb⟩
     ·intro h10
      replace h10 : r ≠ 133 := by omega
      refine zJ (zE (zA (K11 zN (zF (zD (K22 (yD .i32 r 160 (r = 160) rfl (xB r 160)) ?_ ?_))))))
      ·intro h11
       replace h11 : r = 160 := by omega
       refine zJ (zE (zA (K11 zS (zV (zA (K11 zS (zF (zD (zJ (zE (zA (zX (zU (zH ?_))))))))))))))
       refine zO [.tmp 2] [(.bool true)] rfl rfl ⟨by kernel_rfl, trivial⟩ ?_
       have e0 : true = blankB r := by simp only [blankB]; simp [*] <;> omega
       exact ⟨congrArg Value.bool e0, hb⟩
      ·intro h12
       replace h12 : r ≠ 160 := by omega
       refine zJ (zE (zA (K11 zN (zF (zD (K22 (yD .i32 r 5760 (r = 5760) rfl (xB r 5760)) ?_ ?_))))))
       ·intro h13
        replace h13 : r = 5760 := by omega
        refine zJ (zE (zA (K11 zS (zV (zA (K11 zS (zF (zD (zJ (zE (zA (zX (zU (zH ?_))))))))))))))
        refine zO [.tmp 2] [(.bool true)] rfl rfl ⟨by kernel_rfl, trivial⟩ ?_
        have e0 : true = blankB r := by simp only [blankB]; simp [*] <;> omega
        exact ⟨congrArg Value.bool e0, hb⟩
       ·intro h14
        replace h14 : r ≠ 5760 := by omega
        refine zJ (zE (zA (K11 zN (zF (zD (K22 (yD .i32 r 8232 (r = 8232) rfl (xB r 8232)) ?_ ?_))))))
        ·intro h15
         replace h15 : r = 8232 := by omega
         refine zJ (zE (zA (K11 zS (zV (zA (K11 zS (zF (zD (zJ (zE (zA (zX (zU (zH ?_))))))))))))))
         refine zO [.tmp 2] [(.bool true)] rfl rfl ⟨by kernel_rfl, trivial⟩ ?_
         have e0 : true = blankB r := by simp only [blankB]; simp [*] <;> omega
         exact ⟨congrArg Value.bool e0, hb⟩
        ·intro h16
         replace h16 : r ≠ 8232 := by omega
         refine zJ (zE (zA (K11 zN (zF (zD (K22 (yD .i32 r 8233 (r = 8233) rfl (xB r 8233)) ?_ ?_))))))
         ·intro h17
          replace h17 : r = 8233 := by omega
          refine zJ (zE (zA (K11 zS (zV (zA (K11 zS (zF (zD (zJ (zE (zA (zX (zU (zH ?_))))))))))))))
          refine zO [.tmp 2] [(.bool true)] rfl rfl ⟨by kernel_rfl, trivial⟩ ?_
          have e0 : true = blankB r := by simp only [blankB]; simp [*] <;> omega
          exact ⟨congrArg Value.bool e0, hb⟩
         ·intro h18
          replace h18 : r ≠ 8233 := by omega
          refine zJ (zE (zA (K11 zN (zF (zD (K22 (yD .i32 r 8239 (r = 8239) rfl (xB r 8239)) ?_ ?_))))))
          ·intro h19
           replace h19 : r = 8239 := by omega
           refine zJ (zE (zA (K11 zS (zV (zA (K11 zS (zF (zD (zJ (zE (zA (zX (zU (zH ?_))))))))))))))
           refine zO [.tmp 2] [(.bool true)] rfl rfl ⟨by kernel_rfl, trivial⟩ ?_
           have e0 : true = blankB r := by simp only [blankB]; simp [*] <;> omega
           exact ⟨congrArg Value.bool e0, hb⟩
          ·intro h20
           replace h20 : r ≠ 8239 := by omega
           refine zJ (zE (zA (K11 zN (zF (zD (K22 (yD .i32 r 8287 (r = 8287) rfl (xB r 8287)) ?_ ?_))))))
           ·intro h21
            replace h21 : r = 8287 := by omega
            refine zJ (zE (zA (K11 zS (zV (zA (K11 zS (zF (zD (zJ (zE (zA (zX (zU (zH ?_))))))))))))))
            refine zO [.tmp 2] [(.bool true)] rfl rfl ⟨by kernel_rfl, trivial⟩ ?_
            have e0 : true = blankB r := by simp only [blankB]; simp [*] <;> omega
            exact ⟨congrArg Value.bool e0, hb⟩
           ·intro h22
            replace h22 : r ≠ 8287 := by omega
            refine zJ (zE (zA (K11 zN (zD (K22 (yD .i32 r 12288 (r = 12288) rfl (xB r 12288)) ?_ ?_)))))
            ·intro h23
             replace h23 : r = 12288 := by omega
             refine zJ (zE (zA (K11 zS (zF (zD (zJ (zE (zA (zX (zU (zH ?_)))))))))))
             refine zO [.tmp 2] [(.bool true)] rfl rfl ⟨by kernel_rfl, trivial⟩ ?_
             have e0 : true = blankB r := by simp only [blankB]; simp [*] <;> omega
             exact ⟨congrArg Value.bool e0, hb⟩
            ·intro h24
             replace h24 : r ≠ 12288 := by omega
             refine zJ (zE (zA (K11 zN (zV (zP (zA (zF (zD (zI (K22 (yD .i32 r 8192 (8192 ≤ r) rfl (cmp_ge r 8192)) ?_ ?_))))))))))
             ·intro h25
              replace h25 : 8192 ≤ r := by omega
              refine zI (K11 zY (zI (K11 zY (K22 (yD .i32 r 8202 (r ≤ 8202) rfl (cmp_le r 8202)) ?_ ?_))))
              ·intro h26
               replace h26 : r ≤ 8202 := by omega
               refine K11 yU (zJ (zE (zA (zX ?_))))
               refine zO [.tmp 2] [(.bool true)] rfl rfl ⟨by kernel_rfl, trivial⟩ ?_
               have e0 : true = blankB r := by simp only [blankB]; simp [*] <;> omega
               exact ⟨congrArg Value.bool e0, hb⟩
              ·intro h27
               replace h27 : 8202 < r := by omega
               refine K11 yU (zJ (zE (zA (zX ?_))))
               refine zO [.tmp 2] [(.bool false)] rfl rfl ⟨by kernel_rfl, trivial⟩ ?_
               have e0 : false = blankB r := by simp only [blankB]; simp [*] <;> omega
               exact ⟨congrArg Value.bool e0, hb⟩
             ·intro h28
              replace h28 : r < 8192 := by omega
              refine zI (K11 yC (K11 yC (K11 yV (zJ (zE (zA (zX ?_)))))))
              refine zO [.tmp 2] [(.bool false)] rfl rfl ⟨by kernel_rfl, trivial⟩ ?_
              have e0 : false = blankB r := by simp only [blankB]; simp [*] <;> omega
              exact ⟨congrArg Value.bool e0, hb⟩
theorem c_utf_Encode (v_l : Value) (l : List (Int)) (w : World) (p_l : Rd w encI32 v_l l) :
  Calls Tryz.prog 169 #[v_l] w (Ret fun v w' => v = (S (encL l)) ∧ Below w.heap.size w w') := by
 refine K11 (enter (args := [v_l]) Tryz.func169 rfl (by kernel_rfl : _ = 5)) ?_
 have hb := Below.refl w.heap.size w
 have hs : w.heap.size ≤ w.heap.size := Nat.le_refl _
 refine zF (zD (zJ (zE (zA (zF (zD (zI (K12 (L_runesStr v_l l Tryz.underlying47 Tryz.underlying21 Tryz.underlying9) p_l (zJ (zE (zA (zX ?_))))))))))))
 refine zO [.tmp 2] [(S (encL l))] rfl rfl ⟨by kernel_rfl, trivial⟩ ?_
 have e0 : (encL l) = encL l := by first | rfl | (simp_all; done) | omega
 exact ⟨congrArg S e0, hb⟩
theorem c_words_Loose (s : List UInt8) (w : World) (hs : s.length ≤ 1073741824) :
  Calls Tryz.prog 152 #[(S s)] w (Ret fun v w' => v = (S (looseS s)) ∧ Below w.heap.size w w') := by
 refine K11 (enter (args := [(S s)]) Tryz.func152 rfl (by kernel_rfl : _ = 35)) ?_
 have hb := Below.refl w.heap.size w
 have hs : w.heap.size ≤ w.heap.size := Nat.le_refl _
 refine zF (zD (zJ (zE (zA (zF (zD (zJ (zE (zA (zF (zF (zD (zI (K11 (L_range s Tryz.underlying9) ?_))))))))))))))
 intro b1 w2 hN3
 have g_it7 : w.heap.size ≤ b1 := by rw [hN3.num]; exact hs
 replace hb := hb.trans (hN3.below.mono hs)
 replace hs := Nat.le_trans hs (hN3.below.size)
 have o_it7 := hN3.here
 refine zE (zA (yP ?_))
 refine W_loop (fun m s0 w0 => ∃ (pos : Nat) (acc : List Int) (v_3 : Value), (m = s.length - pos) ∧ (s0.ds = []) ∧ (s0.f 2 = (S ([] : List UInt8))) ∧ (s0.f 7 = (.pointer (some ⟨b1, 0, none⟩))) ∧ (s0.f 3 = v_3) ∧ (Row w0 w.heap.size 21 1 encI32 v_3 acc) ∧ (w0.heap[b1]? = some (.stringIter ⟨(s).toArray⟩ pos)) ∧ (Below w.heap.size w w0) ∧ (w.heap.size ≤ w0.heap.size) ∧ (pos ≤ s.length) ∧ (acc.length ≤ pos) ∧ (acc ++ looseL (runesFrom s pos) = looseL (runesFrom s 0))) _ ⟨0, [], (.slice none 0 0), rfl, by kernel_rfl, by kernel_rfl, by kernel_rfl, by kernel_rfl, Row.nil _ _ _ _ _, o_it7, hb, hs, by omega, by simp, by simp⟩ ?_
 rintro m4 s5 w6 ⟨pos, acc, v_3, hm, hds, f_2, f_7, f_3, r_3, o_it7, hb, hs, i1, i2, i3⟩
 refine yK 2 _ f_2 (yK 7 _ f_7 (yK 3 _ f_3 ?_))
 clear f_2 f_7 f_3
 refine zF (zD ?_)
 rcases Nat.lt_or_ge pos (s).length with lt_it7 | ge_it7
 ·refine K13 (L_next s b1 pos) o_it7 lt_it7 ?_
  intro c_it7 w7 ch_it7 hW8
  replace hb := hb.trans (hW8.below g_it7)
  replace hs := Nat.le_trans hs (Nat.le_of_eq hW8.size.symm)
  replace r_3 := r_3.wrote hW8 (r_3.ne o_it7 (by simp))
  replace o_it7 := hW8.here
  have := dec_pos s pos; have := dec_fits s pos lt_it7; have := dec_le s pos
  have c_it7_0 : 0 ≤ c_it7 := by omega
  have c_it7_1 : c_it7 ≤ 2147483647 := by omega
  refine K21 (zQ (.bool true)) (zE (zA (zF (K11 zS (zV (zA (yP (zF (zD (K21 (zQ (.int .i32 c_it7)) (zJ (zE (zA (zF (zF (zD (zI (K22 (yA 168 [(.int .i32 c_it7)]) (c_words_Blank c_it7 _) ?_))))))))))))))))))
  rintro _ w9 ⟨rfl, hB10⟩
  replace hb := hb.trans (hB10.mono hs)
  replace hs := Nat.le_trans hs (hB10.size)
  replace o_it7 := zB o_it7 hB10
  replace r_3 := r_3.below hB10
  refine xK (blankB c_it7) ?_ ?_
  ·intro h12
   refine zI (K11 yC (K11 yC (K11 yU (zI (K11 yC (K11 yC (K11 yU (zE (zA (K11 zS (W_exit (yM (xM ?_)))))))))))))
   refine zA ⟨_, ?_, (pos + (dec s pos).2), acc, v_3, rfl, hds, by kernel_rfl, by kernel_rfl, by kernel_rfl, r_3, o_it7, hb, hs, ?_, ?_, ?_⟩
   ·omega
   ·omega
   ·(try simp only [List.length_append, List.length_cons, List.length_nil]); omega
   ·rw [← i3, runesFrom_step lt_it7, ← ch_it7, looseL_cons]; clear ch_it7; simp [dropW, *]; try (unfold lowerI; split <;> omega)
  ·intro h13
   refine zI (K11 zY (zI (K11 zY (K22 (yD .i32 c_it7 95 (c_it7 = 95) rfl (xB c_it7 95)) ?_ ?_))))
   ·intro h14
    replace h14 : c_it7 = 95 := by omega
    refine K11 yV (zI (K11 yC (K11 yC (K11 yU (zE (zA (K11 zS (W_exit (yM (xM ?_))))))))))
    refine zA ⟨_, ?_, (pos + (dec s pos).2), acc, v_3, rfl, hds, by kernel_rfl, by kernel_rfl, by kernel_rfl, r_3, o_it7, hb, hs, ?_, ?_, ?_⟩
    ·omega
    ·omega
    ·(try simp only [List.length_append, List.length_cons, List.length_nil]); omega
    ·rw [← i3, runesFrom_step lt_it7, ← ch_it7, looseL_cons]; clear ch_it7; simp [dropW, *]; try (unfold lowerI; split <;> omega)
   ·intro h15
    replace h15 : c_it7 ≠ 95 := by omega
    refine K11 yV (zI (K11 zY (zI (K11 zY (K22 (yD .i32 c_it7 45 (c_it7 = 45) rfl (xB c_it7 45)) ?_ ?_)))))
    ·intro h16
     replace h16 : c_it7 = 45 := by omega
     refine K11 yV (zE (zA (K11 zS (W_exit (yM (xM ?_))))))
     refine zA ⟨_, ?_, (pos + (dec s pos).2), acc, v_3, rfl, hds, by kernel_rfl, by kernel_rfl, by kernel_rfl, r_3, o_it7, hb, hs, ?_, ?_, ?_⟩
     ·omega
     ·omega
     ·(try simp only [List.length_append, List.length_cons, List.length_nil]); omega
     ·rw [← i3, runesFrom_step lt_it7, ← ch_it7, looseL_cons]; clear ch_it7; simp [dropW, *]; try (unfold lowerI; split <;> omega)
    ·intro h17
     replace h17 : c_it7 ≠ 45 := by omega
     refine K11 yV (zE (zA (K11 zN (zV (zA (zF (zF (zD (zI (K22 (yD .i32 c_it7 65 (65 ≤ c_it7) rfl (cmp_ge c_it7 65)) ?_ ?_))))))))))
     ·intro h18
      replace h18 : 65 ≤ c_it7 := by omega
      refine zI (K11 zY (zI (K11 zY (K22 (yD .i32 c_it7 90 (c_it7 ≤ 90) rfl (cmp_le c_it7 90)) ?_ ?_))))
      ·intro h19
       replace h19 : c_it7 ≤ 90 := by omega
       refine K11 yU (zE (zA (K11 zS (zD (zI (K22 (xS c_it7 32 (c_it7 + 32) rfl) (wrap_i32 _ (by simp only [arithZ]; omega) (by simp only [arithZ]; omega)) (zJ (zE (zA (zD (zI (zI (K21 (L_app el47 w.heap.size v_3 acc (c_it7 + 32) hs r_3 (by omega) (by kernel_rfl) rfl rfl (by kernel_rfl) rfl) ?_)))))))))))))
       intro v20 w21 hr22 hg23 how24
       replace hb := hb.grown hg23 hs (fun k hk => (World.ownsRow.lt r_3 k hk).1)
       replace hs := Nat.le_trans hs (hg23.size)
       replace o_it7 := yF o_it7 hg23 (r_3.ne o_it7 (by simp))
       replace r_3 := hr22
       refine zJ (zE (zP ?_))
       refine zA ⟨_, ?_, (pos + (dec s pos).2), (acc ++ [(c_it7 + 32)]), v20, rfl, hds, by kernel_rfl, by kernel_rfl, by kernel_rfl, r_3, o_it7, hb, hs, ?_, ?_, ?_⟩
       ·omega
       ·omega
       ·(try simp only [List.length_append, List.length_cons, List.length_nil]); omega
       ·rw [← i3, runesFrom_step lt_it7, ← ch_it7, looseL_cons]; clear ch_it7; simp [dropW, *]; try (unfold lowerI; split <;> omega)
      ·intro h25
       replace h25 : 90 < c_it7 := by omega
       refine K11 yU (zE (zA (K11 zN (zV (zA (zD (zI (zI (K21 (L_app el47 w.heap.size v_3 acc c_it7 hs r_3 (by omega) (by kernel_rfl) rfl rfl (by kernel_rfl) rfl) ?_)))))))))
       intro v26 w27 hr28 hg29 how30
       replace hb := hb.grown hg29 hs (fun k hk => (World.ownsRow.lt r_3 k hk).1)
       replace hs := Nat.le_trans hs (hg29.size)
       replace o_it7 := yF o_it7 hg29 (r_3.ne o_it7 (by simp))
       replace r_3 := hr28
       refine zJ (zE (zP ?_))
       refine zA ⟨_, ?_, (pos + (dec s pos).2), (acc ++ [c_it7]), v26, rfl, hds, by kernel_rfl, by kernel_rfl, by kernel_rfl, r_3, o_it7, hb, hs, ?_, ?_, ?_⟩
       ·omega
       ·omega
       ·(try simp only [List.length_append, List.length_cons, List.length_nil]); omega
       ·rw [← i3, runesFrom_step lt_it7, ← ch_it7, looseL_cons]; clear ch_it7; simp [dropW, *]; try (unfold lowerI; split <;> omega)
     ·intro h31
      replace h31 : c_it7 < 65 := by omega
      refine zI (K11 yC (K11 yC (K11 yV (zE (zA (K11 zN (zV (zA (zD (zI (zI (K21 (L_app el47 w.heap.size v_3 acc c_it7 hs r_3 (by omega) (by kernel_rfl) rfl rfl (by kernel_rfl) rfl) ?_))))))))))))
      intro v32 w33 hr34 hg35 how36
      replace hb := hb.grown hg35 hs (fun k hk => (World.ownsRow.lt r_3 k hk).1)
      replace hs := Nat.le_trans hs (hg35.size)
      replace o_it7 := yF o_it7 hg35 (r_3.ne o_it7 (by simp))
      replace r_3 := hr34
      refine zJ (zE (zP ?_))
      refine zA ⟨_, ?_, (pos + (dec s pos).2), (acc ++ [c_it7]), v32, rfl, hds, by kernel_rfl, by kernel_rfl, by kernel_rfl, r_3, o_it7, hb, hs, ?_, ?_, ?_⟩
      ·omega
      ·omega
      ·(try simp only [List.length_append, List.length_cons, List.length_nil]); omega
      ·rw [← i3, runesFrom_step lt_it7, ← ch_it7, looseL_cons]; clear ch_it7; simp [dropW, *]; try (unfold lowerI; split <;> omega)
 ·refine K13 (L_nextEnd s b1 pos) o_it7 ge_it7 (K21 (zQ (.bool false)) (zE (zA (zF (K11 zN (W_exit (yM (yM (xM (zA (zF (zD (zI (K22 (yA 169 [v_3]) (c_utf_Encode v_3 acc _ r_3.rd) ?_))))))))))))))
  rintro _ w37 ⟨rfl, hB38⟩
  replace hb := hb.trans (hB38.mono hs)
  replace hs := Nat.le_trans hs (hB38.size)
  refine zJ (zE (zA (zX ?_)))
  refine zO [.tmp 2] [(S (encL acc))] rfl hds ⟨by kernel_rfl, trivial⟩ ?_
  have e0 : encL acc = looseS s := by rw [looseS, ← i3, runesFrom_end ge_it7]; simp [looseL]
  exact ⟨congrArg S e0, hb⟩
theorem c_words_Alike (a : List UInt8) (b : List UInt8) (w : World) (ha : a.length ≤ 1073741824) (hb_ : b.length ≤ 1073741824) :
  Calls Tryz.prog 133 #[(S a), (S b)] w (Ret fun v w' => v = (.bool (alikeB a b)) ∧ Below w.heap.size w w') := by
 refine K11 (enter (args := [(S a), (S b)]) Tryz.func133 rfl (by kernel_rfl : _ = 10)) ?_
 have hb := Below.refl w.heap.size w
 have hs : w.heap.size ≤ w.heap.size := Nat.le_refl _
 refine zF (zD (zJ (zE (zA (zF (zD (zI (K22 (yA 152 [(S a)]) (c_words_Loose a _ (by omega)) ?_))))))))
 rintro _ w1 ⟨rfl, hB2⟩
 replace hb := hb.trans (hB2.mono hs)
 replace hs := Nat.le_trans hs (hB2.size)
 refine zI (K22 (yA 152 [(S b)]) (c_words_Loose b _ (by omega)) ?_)
 rintro _ w4 ⟨rfl, hB5⟩
 replace hb := hb.trans (hB5.mono hs)
 replace hs := Nat.le_trans hs (hB5.size)
 refine K22 (L_seq (looseS a) (looseS b) rfl) ?_ ?_
 ·intro h7
  refine zJ (zE (zA (zX ?_)))
  refine zO [.tmp 4] [(.bool true)] rfl rfl ⟨by kernel_rfl, trivial⟩ ?_
  have e0 : true = alikeB a b := by simp [alikeB, *]
  exact ⟨congrArg Value.bool e0, hb⟩
 ·intro h8
  refine zJ (zE (zA (zX ?_)))
  refine zO [.tmp 4] [(.bool false)] rfl rfl ⟨by kernel_rfl, trivial⟩ ?_
  have e0 : false = alikeB a b := by simp [alikeB, *]
  exact ⟨congrArg Value.bool e0, hb⟩
theorem c_words_formats (c : Int) (w : World) :
  Calls Tryz.prog 114 #[(.int .u8 c)] w (Ret fun v w' => v = (.tuple #[(S (shortF c)), (S (longF c))]) ∧ Below w.heap.size w w') := by
 refine K11 (enter (args := [(.int .u8 c)]) Tryz.func114 rfl (by kernel_rfl : _ = 23)) ?_
 have hb := Below.refl w.heap.size w
 have hs : w.heap.size ≤ w.heap.size := Nat.le_refl _
 refine zF (zD (zJ (zJ (zE (zA (zF (zF (zD (zI (zE (zA (yP (zF (zD (K22 (yD .u8 c 15 (c = 15) rfl (xB c 15)) ?_ ?_)))))))))))))))
 ·intro h1
  replace h1 : c = 15 := by omega
  refine zJ (zE (zA (K11 zS (zF (zD (zJ (zJ (zE (zA (zX (zU (zH ?_))))))))))))
  refine zO [.tmp 2, .tmp 3] [(S ([76, 82, 69] : List UInt8)), (S ([76, 101, 102, 116, 95, 84, 111, 95, 82, 105, 103, 104, 116, 95, 69, 109, 98, 101, 100, 100, 105, 110, 103] : List UInt8))] rfl rfl ⟨by kernel_rfl, by kernel_rfl, trivial⟩ ?_
  have hE : (([76, 82, 69] : List UInt8) = shortF c) ∧ (([76, 101, 102, 116, 95, 84, 111, 95, 82, 105, 103, 104, 116, 95, 69, 109, 98, 101, 100, 100, 105, 110, 103] : List UInt8) = longF c) := ⟨(by subst_vars; kernel_rfl), (by subst_vars; kernel_rfl)⟩
  exact ⟨xG (congrArg S hE.1) (congrArg S hE.2), hb⟩
 ·intro h2
  replace h2 : c ≠ 15 := by omega
  refine zJ (zE (zA (K11 zN (zF (zD (K22 (yD .u8 c 16 (c = 16) rfl (xB c 16)) ?_ ?_))))))
  ·intro h3
   replace h3 : c = 16 := by omega
   refine zJ (zE (zA (K11 zS (zF (zD (zJ (zJ (zE (zA (zX (zU (zH ?_))))))))))))
   refine zO [.tmp 2, .tmp 3] [(S ([76, 82, 79] : List UInt8)), (S ([76, 101, 102, 116, 95, 84, 111, 95, 82, 105, 103, 104, 116, 95, 79, 118, 101, 114, 114, 105, 100, 101] : List UInt8))] rfl rfl ⟨by kernel_rfl, by kernel_rfl, trivial⟩ ?_
   have hE : (([76, 82, 79] : List UInt8) = shortF c) ∧ (([76, 101, 102, 116, 95, 84, 111, 95, 82, 105, 103, 104, 116, 95, 79, 118, 101, 114, 114, 105, 100, 101] : List UInt8) = longF c) := ⟨(by subst_vars; kernel_rfl), (by subst_vars; kernel_rfl)⟩
   exact ⟨xG (congrArg S hE.1) (congrArg S hE.2), hb⟩
  ·intro h4
   replace h4 : c ≠ 16 := by omega
   refine zJ (zE (zA (K11 zN (zF (zD (K22 (yD .u8 c 17 (c = 17) rfl (xB c 17)) ?_ ?_))))))
   ·intro h5
    replace h5 : c = 17 := by omega
    refine zJ (zE (zA (K11 zS (zF (zD (zJ (zJ (zE (zA (zX (zU (zH ?_))))))))))))
    refine zO [.tmp 2, .tmp 3] [(S ([82, 76, 69] : List UInt8)), (S ([82, 105, 103, 104, 116, 95, 84, 111, 95, 76, 101, 102, 116, 95, 69, 109, 98, 101, 100, 100, 105, 110, 103] : List UInt8))] rfl rfl ⟨by kernel_rfl, by kernel_rfl, trivial⟩ ?_
    have hE : (([82, 76, 69] : List UInt8) = shortF c) ∧ (([82, 105, 103, 104, 116, 95, 84, 111, 95, 76, 101, 102, 116, 95, 69, 109, 98, 101, 100, 100, 105, 110, 103] : List UInt8) = longF c) := ⟨(by subst_vars; kernel_rfl), (by subst_vars; kernel_rfl)⟩
    exact ⟨xG (congrArg S hE.1) (congrArg S hE.2), hb⟩
   ·intro h6
    replace h6 : c ≠ 17 := by omega
    refine zJ (zE (zA (K11 zN (zF (zD (K22 (yD .u8 c 18 (c = 18) rfl (xB c 18)) ?_ ?_))))))
    ·intro h7
     replace h7 : c = 18 := by omega
     refine zJ (zE (zA (K11 zS (zF (zD (zJ (zJ (zE (zA (zX (zU (zH ?_))))))))))))
     refine zO [.tmp 2, .tmp 3] [(S ([82, 76, 79] : List UInt8)), (S ([82, 105, 103, 104, 116, 95, 84, 111, 95, 76, 101, 102, 116, 95, 79, 118, 101, 114, 114, 105, 100, 101] : List UInt8))] rfl rfl ⟨by kernel_rfl, by kernel_rfl, trivial⟩ ?_
     have hE : (([82, 76, 79] : List UInt8) = shortF c) ∧ (([82, 105, 103, 104, 116, 95, 84, 111, 95, 76, 101, 102, 116, 95, 79, 118, 101, 114, 114, 105, 100, 101] : List UInt8) = longF c) := ⟨(by subst_vars; kernel_rfl), (by subst_vars; kernel_rfl)⟩
     exact ⟨xG (congrArg S hE.1) (congrArg S hE.2), hb⟩
    ·intro h8
     replace h8 : c ≠ 18 := by omega
     refine zJ (zE (zA (K11 zN (zF (zD (K22 (yD .u8 c 19 (c = 19) rfl (xB c 19)) ?_ ?_))))))
     ·intro h9
      replace h9 : c = 19 := by omega
      refine zJ (zE (zA (K11 zS (zF (zD (zJ (zJ (zE (zA (zX (zU (zH ?_))))))))))))
      refine zO [.tmp 2, .tmp 3] [(S ([80, 68, 70] : List UInt8)), (S ([80, 111, 112, 95, 68, 105, 114, 101, 99, 116, 105, 111, 110, 97, 108, 95, 70, 111, 114, 109, 97, 116] : List UInt8))] rfl rfl ⟨by kernel_rfl, by kernel_rfl, trivial⟩ ?_
      have hE : (([80, 68, 70] : List UInt8) = shortF c) ∧ (([80, 111, 112, 95, 68, 105, 114, 101, 99, 116, 105, 111, 110, 97, 108, 95, 70, 111, 114, 109, 97, 116] : List UInt8) = longF c) := ⟨(by subst_vars; kernel_rfl), (by subst_vars; kernel_rfl)⟩
      exact ⟨xG (congrArg S hE.1) (congrArg S hE.2), hb⟩
     ·intro h10
      replace h10 : c ≠ 19 := by omega
      refine zJ (zE (zA (K11 zN (zF (zD (K22 (yD .u8 c 20 (c = 20) rfl (xB c 20)) ?_ ?_))))))
      ·intro h11
       replace h11 : c = 20 := by omega
       refine zJ (zE (zA (K11 zS (zF (zD (zJ (zJ (zE (zA (zX (zU (zH ?_))))))))))))
       refine zO [.tmp 2, .tmp 3] [(S ([76, 82, 73] : List UInt8)), (S ([76, 101, 102, 116, 95, 84, 111, 95, 82, 105, 103, 104, 116, 95, 73, 115, 111, 108, 97, 116, 101] : List UInt8))] rfl rfl ⟨by kernel_rfl, by kernel_rfl, trivial⟩ ?_
       have hE : (([76, 82, 73] : List UInt8) = shortF c) ∧ (([76, 101, 102, 116, 95, 84, 111, 95, 82, 105, 103, 104, 116, 95, 73, 115, 111, 108, 97, 116, 101] : List UInt8) = longF c) := ⟨(by subst_vars; kernel_rfl), (by subst_vars; kernel_rfl)⟩
       exact ⟨xG (congrArg S hE.1) (congrArg S hE.2), hb⟩
      ·intro h12
       replace h12 : c ≠ 20 := by omega
       refine zJ (zE (zA (K11 zN (zF (zD (K22 (yD .u8 c 21 (c = 21) rfl (xB c 21)) ?_ ?_))))))
       ·intro h13
        replace h13 : c = 21 := by omega
        refine zJ (zE (zA (K11 zS (zF (zD (zJ (zJ (zE (zA (zX (zU (zH ?_))))))))))))
        refine zO [.tmp 2, .tmp 3] [(S ([82, 76, 73] : List UInt8)), (S ([82, 105, 103, 104, 116, 95, 84, 111, 95, 76, 101, 102, 116, 95, 73, 115, 111, 108, 97, 116, 101] : List UInt8))] rfl rfl ⟨by kernel_rfl, by kernel_rfl, trivial⟩ ?_
        have hE : (([82, 76, 73] : List UInt8) = shortF c) ∧ (([82, 105, 103, 104, 116, 95, 84, 111, 95, 76, 101, 102, 116, 95, 73, 115, 111, 108, 97, 116, 101] : List UInt8) = longF c) := ⟨(by subst_vars; kernel_rfl), (by subst_vars; kernel_rfl)⟩
        exact ⟨xG (congrArg S hE.1) (congrArg S hE.2), hb⟩
       ·intro h14
        replace h14 : c ≠ 21 := by omega
        refine zJ (zE (zA (K11 zN (zF (zD (K22 (yD .u8 c 22 (c = 22) rfl (xB c 22)) ?_ ?_))))))
        ·intro h15
         replace h15 : c = 22 := by omega
         refine zJ (zE (zA (K11 zS (zF (zD (zJ (zJ (zE (zA (zX (zU (zH ?_))))))))))))
         refine zO [.tmp 2, .tmp 3] [(S ([70, 83, 73] : List UInt8)), (S ([70, 105, 114, 115, 116, 95, 83, 116, 114, 111, 110, 103, 95, 73, 115, 111, 108, 97, 116, 101] : List UInt8))] rfl rfl ⟨by kernel_rfl, by kernel_rfl, trivial⟩ ?_
         have hE : (([70, 83, 73] : List UInt8) = shortF c) ∧ (([70, 105, 114, 115, 116, 95, 83, 116, 114, 111, 110, 103, 95, 73, 115, 111, 108, 97, 116, 101] : List UInt8) = longF c) := ⟨(by subst_vars; kernel_rfl), (by subst_vars; kernel_rfl)⟩
         exact ⟨xG (congrArg S hE.1) (congrArg S hE.2), hb⟩
        ·intro h16
         replace h16 : c ≠ 22 := by omega
         refine zJ (zE (zA (K11 zN (zF (zD (K22 (yD .u8 c 23 (c = 23) rfl (xB c 23)) ?_ ?_))))))
         ·intro h17
          replace h17 : c = 23 := by omega
          refine zJ (zE (zA (K11 zS (zF (zD (zJ (zJ (zE (zA (zX (zU (zH ?_))))))))))))
          refine zO [.tmp 2, .tmp 3] [(S ([80, 68, 73] : List UInt8)), (S ([80, 111, 112, 95, 68, 105, 114, 101, 99, 116, 105, 111, 110, 97, 108, 95, 73, 115, 111, 108, 97, 116, 101] : List UInt8))] rfl rfl ⟨by kernel_rfl, by kernel_rfl, trivial⟩ ?_
          have hE : (([80, 68, 73] : List UInt8) = shortF c) ∧ (([80, 111, 112, 95, 68, 105, 114, 101, 99, 116, 105, 111, 110, 97, 108, 95, 73, 115, 111, 108, 97, 116, 101] : List UInt8) = longF c) := ⟨(by subst_vars; kernel_rfl), (by subst_vars; kernel_rfl)⟩
          exact ⟨xG (congrArg S hE.1) (congrArg S hE.2), hb⟩
         ·intro h18
          replace h18 : c ≠ 23 := by omega
          refine zJ (zE (zA (K11 zN (zV (zP (zA (zF (zD (zJ (zJ (zE (zA (zX ?_)))))))))))))
          refine zO [.tmp 2, .tmp 3] [(S ([] : List UInt8)), (S ([] : List UInt8))] rfl rfl ⟨by kernel_rfl, by kernel_rfl, trivial⟩ ?_
          have hE : (([] : List UInt8) = shortF c) ∧ (([] : List UInt8) = longF c) := ⟨(by rw [shortF_none (by omega)]), (by rw [longF_none (by omega)])⟩
          exact ⟨xG (congrArg S hE.1) (congrArg S hE.2), hb⟩
theorem c_words_names (c : Int) (w : World) (hc : 0 ≤ c) :
  Calls Tryz.prog 76 #[(.int .u8 c)] w (Ret fun v w' => v = (.tuple #[(S (shortS c)), (S (longS c))]) ∧ Below w.heap.size w w') := by
 refine K11 (enter (args := [(.int .u8 c)]) Tryz.func76 rfl (by kernel_rfl : _ = 37)) ?_
 have hb := Below.refl w.heap.size w
 have hs : w.heap.size ≤ w.heap.size := Nat.le_refl _
 refine zF (zD (zJ (zJ (zE (zA (zF (zF (zD (zI (zE (zA (yP (zF (zD (K22 (yD .u8 c 1 (c = 1) rfl (xB c 1)) ?_ ?_)))))))))))))))
 ·intro h1
  replace h1 : c = 1 := by omega
  refine zJ (zE (zA (K11 zS (zF (zD (zJ (zJ (zE (zA (zX (zU (zH ?_))))))))))))
  refine zO [.tmp 2, .tmp 3] [(S ([76] : List UInt8)), (S ([76, 101, 102, 116, 95, 84, 111, 95, 82, 105, 103, 104, 116] : List UInt8))] rfl rfl ⟨by kernel_rfl, by kernel_rfl, trivial⟩ ?_
  have hE : (([76] : List UInt8) = shortS c) ∧ (([76, 101, 102, 116, 95, 84, 111, 95, 82, 105, 103, 104, 116] : List UInt8) = longS c) := ⟨(by subst_vars; kernel_rfl), (by subst_vars; kernel_rfl)⟩
  exact ⟨xG (congrArg S hE.1) (congrArg S hE.2), hb⟩
 ·intro h2
  replace h2 : c ≠ 1 := by omega
  refine zJ (zE (zA (K11 zN (zF (zD (K22 (yD .u8 c 2 (c = 2) rfl (xB c 2)) ?_ ?_))))))
  ·intro h3
   replace h3 : c = 2 := by omega
   refine zJ (zE (zA (K11 zS (zF (zD (zJ (zJ (zE (zA (zX (zU (zH ?_))))))))))))
   refine zO [.tmp 2, .tmp 3] [(S ([82] : List UInt8)), (S ([82, 105, 103, 104, 116, 95, 84, 111, 95, 76, 101, 102, 116] : List UInt8))] rfl rfl ⟨by kernel_rfl, by kernel_rfl, trivial⟩ ?_
   have hE : (([82] : List UInt8) = shortS c) ∧ (([82, 105, 103, 104, 116, 95, 84, 111, 95, 76, 101, 102, 116] : List UInt8) = longS c) := ⟨(by subst_vars; kernel_rfl), (by subst_vars; kernel_rfl)⟩
   exact ⟨xG (congrArg S hE.1) (congrArg S hE.2), hb⟩
  ·intro h4
   replace h4 : c ≠ 2 := by omega
   refine zJ (zE (zA (K11 zN (zF (zD (K22 (yD .u8 c 3 (c = 3) rfl (xB c 3)) ?_ ?_))))))
   ·intro h5
    replace h5 : c = 3 := by omega
    refine zJ (zE (zA (K11 zS (zF (zD (zJ (zJ (zE (zA (zX (zU (zH ?_))))))))))))
    refine zO [.tmp 2, .tmp 3] [(S ([65, 76] : List UInt8)), (S ([65, 114, 97, 98, 105, 99, 95, 76, 101, 116, 116, 101, 114] : List UInt8))] rfl rfl ⟨by kernel_rfl, by kernel_rfl, trivial⟩ ?_
    have hE : (([65, 76] : List UInt8) = shortS c) ∧ (([65, 114, 97, 98, 105, 99, 95, 76, 101, 116, 116, 101, 114] : List UInt8) = longS c) := ⟨(by subst_vars; kernel_rfl), (by subst_vars; kernel_rfl)⟩
    exact ⟨xG (congrArg S hE.1) (congrArg S hE.2), hb⟩
   ·intro h6
    replace h6 : c ≠ 3 := by omega
    refine zJ (zE (zA (K11 zN (zF (zD (K22 (yD .u8 c 4 (c = 4) rfl (xB c 4)) ?_ ?_))))))
    ·intro h7
     replace h7 : c = 4 := by omega
     refine zJ (zE (zA (K11 zS (zF (zD (zJ (zJ (zE (zA (zX (zU (zH ?_))))))))))))
     refine zO [.tmp 2, .tmp 3] [(S ([69, 78] : List UInt8)), (S ([69, 117, 114, 111, 112, 101, 97, 110, 95, 78, 117, 109, 98, 101, 114] : List UInt8))] rfl rfl ⟨by kernel_rfl, by kernel_rfl, trivial⟩ ?_
     have hE : (([69, 78] : List UInt8) = shortS c) ∧ (([69, 117, 114, 111, 112, 101, 97, 110, 95, 78, 117, 109, 98, 101, 114] : List UInt8) = longS c) := ⟨(by subst_vars; kernel_rfl), (by subst_vars; kernel_rfl)⟩
     exact ⟨xG (congrArg S hE.1) (congrArg S hE.2), hb⟩
    ·intro h8
     replace h8 : c ≠ 4 := by omega
     refine zJ (zE (zA (K11 zN (zF (zD (K22 (yD .u8 c 5 (c = 5) rfl (xB c 5)) ?_ ?_))))))
     ·intro h9
      replace h9 : c = 5 := by omega
      refine zJ (zE (zA (K11 zS (zF (zD (zJ (zJ (zE (zA (zX (zU (zH ?_))))))))))))
      refine zO [.tmp 2, .tmp 3] [(S ([69, 83] : List UInt8)), (S ([69, 117, 114, 111, 112, 101, 97, 110, 95, 83, 101, 112, 97, 114, 97, 116, 111, 114] : List UInt8))] rfl rfl ⟨by kernel_rfl, by kernel_rfl, trivial⟩ ?_
      have hE : (([69, 83] : List UInt8) = shortS c) ∧ (([69, 117, 114, 111, 112, 101, 97, 110, 95, 83, 101, 112, 97, 114, 97, 116, 111, 114] : List UInt8) = longS c) := ⟨(by subst_vars; kernel_rfl), (by subst_vars; kernel_rfl)⟩
      exact ⟨xG (congrArg S hE.1) (congrArg S hE.2), hb⟩
     ·intro h10
      replace h10 : c ≠ 5 := by omega
      refine zJ (zE (zA (K11 zN (zF (zD (K22 (yD .u8 c 6 (c = 6) rfl (xB c 6)) ?_ ?_))))))
      ·intro h11
       replace h11 : c = 6 := by omega
       refine zJ (zE (zA (K11 zS (zF (zD (zJ (zJ (zE (zA (zX (zU (zH ?_))))))))))))
       refine zO [.tmp 2, .tmp 3] [(S ([69, 84] : List UInt8)), (S ([69, 117, 114, 111, 112, 101, 97, 110, 95, 84, 101, 114, 109, 105, 110, 97, 116, 111, 114] : List UInt8))] rfl rfl ⟨by kernel_rfl, by kernel_rfl, trivial⟩ ?_
       have hE : (([69, 84] : List UInt8) = shortS c) ∧ (([69, 117, 114, 111, 112, 101, 97, 110, 95, 84, 101, 114, 109, 105, 110, 97, 116, 111, 114] : List UInt8) = longS c) := ⟨(by subst_vars; kernel_rfl), (by subst_vars; kernel_rfl)⟩
       exact ⟨xG (congrArg S hE.1) (congrArg S hE.2), hb⟩
      ·intro h12
       replace h12 : c ≠ 6 := by omega
       refine zJ (zE (zA (K11 zN (zF (zD (K22 (yD .u8 c 7 (c = 7) rfl (xB c 7)) ?_ ?_))))))
       ·intro h13
        replace h13 : c = 7 := by omega
        refine zJ (zE (zA (K11 zS (zF (zD (zJ (zJ (zE (zA (zX (zU (zH ?_))))))))))))
        refine zO [.tmp 2, .tmp 3] [(S ([65, 78] : List UInt8)), (S ([65, 114, 97, 98, 105, 99, 95, 78, 117, 109, 98, 101, 114] : List UInt8))] rfl rfl ⟨by kernel_rfl, by kernel_rfl, trivial⟩ ?_
        have hE : (([65, 78] : List UInt8) = shortS c) ∧ (([65, 114, 97, 98, 105, 99, 95, 78, 117, 109, 98, 101, 114] : List UInt8) = longS c) := ⟨(by subst_vars; kernel_rfl), (by subst_vars; kernel_rfl)⟩
        exact ⟨xG (congrArg S hE.1) (congrArg S hE.2), hb⟩
       ·intro h14
        replace h14 : c ≠ 7 := by omega
        refine zJ (zE (zA (K11 zN (zF (zD (K22 (yD .u8 c 8 (c = 8) rfl (xB c 8)) ?_ ?_))))))
        ·intro h15
         replace h15 : c = 8 := by omega
         refine zJ (zE (zA (K11 zS (zF (zD (zJ (zJ (zE (zA (zX (zU (zH ?_))))))))))))
         refine zO [.tmp 2, .tmp 3] [(S ([67, 83] : List UInt8)), (S ([67, 111, 109, 109, 111, 110, 95, 83, 101, 112, 97, 114, 97, 116, 111, 114] : List UInt8))] rfl rfl ⟨by kernel_rfl, by kernel_rfl, trivial⟩ ?_
         have hE : (([67, 83] : List UInt8) = shortS c) ∧ (([67, 111, 109, 109, 111, 110, 95, 83, 101, 112, 97, 114, 97, 116, 111, 114] : List UInt8) = longS c) := ⟨(by subst_vars; kernel_rfl), (by subst_vars; kernel_rfl)⟩
         exact ⟨xG (congrArg S hE.1) (congrArg S hE.2), hb⟩
        ·intro h16
         replace h16 : c ≠ 8 := by omega
         refine zJ (zE (zA (K11 zN (zF (zD (K22 (yD .u8 c 9 (c = 9) rfl (xB c 9)) ?_ ?_))))))
         ·intro h17
          replace h17 : c = 9 := by omega
          refine zJ (zE (zA (K11 zS (zF (zD (zJ (zJ (zE (zA (zX (zU (zH ?_))))))))))))
          refine zO [.tmp 2, .tmp 3] [(S ([78, 83, 77] : List UInt8)), (S ([78, 111, 110, 115, 112, 97, 99, 105, 110, 103, 95, 77, 97, 114, 107] : List UInt8))] rfl rfl ⟨by kernel_rfl, by kernel_rfl, trivial⟩ ?_
          have hE : (([78, 83, 77] : List UInt8) = shortS c) ∧ (([78, 111, 110, 115, 112, 97, 99, 105, 110, 103, 95, 77, 97, 114, 107] : List UInt8) = longS c) := ⟨(by subst_vars; kernel_rfl), (by subst_vars; kernel_rfl)⟩
          exact ⟨xG (congrArg S hE.1) (congrArg S hE.2), hb⟩
         ·intro h18
          replace h18 : c ≠ 9 := by omega
          refine zJ (zE (zA (K11 zN (zF (zD (K22 (yD .u8 c 10 (c = 10) rfl (xB c 10)) ?_ ?_))))))
          ·intro h19
           replace h19 : c = 10 := by omega
           refine zJ (zE (zA (K11 zS (zF (zD (zJ (zJ (zE (zA (zX (zU (zH ?_))))))))))))
           refine zO [.tmp 2, .tmp 3] [(S ([66, 78] : List UInt8)), (S ([66, 111, 117, 110, 100, 97, 114, 121, 95, 78, 101, 117, 116, 114, 97, 108] : List UInt8))] rfl rfl ⟨by kernel_rfl, by kernel_rfl, trivial⟩ ?_
           have hE : (([66, 78] : List UInt8) = shortS c) ∧ (([66, 111, 117, 110, 100, 97, 114, 121, 95, 78, 101, 117, 116, 114, 97, 108] : List UInt8) = longS c) := ⟨(by subst_vars; kernel_rfl), (by subst_vars; kernel_rfl)⟩
           exact ⟨xG (congrArg S hE.1) (congrArg S hE.2), hb⟩
          ·intro h20
           replace h20 : c ≠ 10 := by omega
           refine zJ (zE (zA (K11 zN (zF (zD (K22 (yD .u8 c 11 (c = 11) rfl (xB c 11)) ?_ ?_))))))
           ·intro h21
            replace h21 : c = 11 := by omega
            refine zJ (zE (zA (K11 zS (zF (zD (zJ (zJ (zE (zA (zX (zU (zH ?_))))))))))))
            refine zO [.tmp 2, .tmp 3] [(S ([66] : List UInt8)), (S ([80, 97, 114, 97, 103, 114, 97, 112, 104, 95, 83, 101, 112, 97, 114, 97, 116, 111, 114] : List UInt8))] rfl rfl ⟨by kernel_rfl, by kernel_rfl, trivial⟩ ?_
            have hE : (([66] : List UInt8) = shortS c) ∧ (([80, 97, 114, 97, 103, 114, 97, 112, 104, 95, 83, 101, 112, 97, 114, 97, 116, 111, 114] : List UInt8) = longS c) := ⟨(by subst_vars; kernel_rfl), (by subst_vars; kernel_rfl)⟩
            exact ⟨xG (congrArg S hE.1) (congrArg S hE.2), hb⟩
           ·intro h22
            replace h22 : c ≠ 11 := by omega
            refine zJ (zE (zA (K11 zN (zF (zD (K22 (yD .u8 c 12 (c = 12) rfl (xB c 12)) ?_ ?_))))))
            ·intro h23
             replace h23 : c = 12 := by omega
             refine zJ (zE (zA (K11 zS (zF (zD (zJ (zJ (zE (zA (zX (zU (zH ?_))))))))))))
             refine zO [.tmp 2, .tmp 3] [(S ([83] : List UInt8)), (S ([83, 101, 103, 109, 101, 110, 116, 95, 83, 101, 112, 97, 114, 97, 116, 111, 114] : List UInt8))] rfl rfl ⟨by kernel_rfl, by kernel_rfl, trivial⟩ ?_
             have hE : (([83] : List UInt8) = shortS c) ∧ (([83, 101, 103, 109, 101, 110, 116, 95, 83, 101, 112, 97, 114, 97, 116, 111, 114] : List UInt8) = longS c) := ⟨(by subst_vars; kernel_rfl), (by subst_vars; kernel_rfl)⟩
             exact ⟨xG (congrArg S hE.1) (congrArg S hE.2), hb⟩
            ·intro h24
             replace h24 : c ≠ 12 := by omega
             refine zJ (zE (zA (K11 zN (zF (zD (K22 (yD .u8 c 13 (c = 13) rfl (xB c 13)) ?_ ?_))))))
             ·intro h25
              replace h25 : c = 13 := by omega
              refine zJ (zE (zA (K11 zS (zF (zD (zJ (zJ (zE (zA (zX (zU (zH ?_))))))))))))
              refine zO [.tmp 2, .tmp 3] [(S ([87, 83] : List UInt8)), (S ([87, 104, 105, 116, 101, 95, 83, 112, 97, 99, 101] : List UInt8))] rfl rfl ⟨by kernel_rfl, by kernel_rfl, trivial⟩ ?_
              have hE : (([87, 83] : List UInt8) = shortS c) ∧ (([87, 104, 105, 116, 101, 95, 83, 112, 97, 99, 101] : List UInt8) = longS c) := ⟨(by subst_vars; kernel_rfl), (by subst_vars; kernel_rfl)⟩
              exact ⟨xG (congrArg S hE.1) (congrArg S hE.2), hb⟩
             ·intro h26
              replace h26 : c ≠ 13 := by omega
              refine zJ (zE (zA (K11 zN (zF (zD (K22 (yD .u8 c 14 (c = 14) rfl (xB c 14)) ?_ ?_))))))
              ·intro h27
               replace h27 : c = 14 := by omega
               refine zJ (zE (zA (K11 zS (zF (zD (zJ (zJ (zE (zA (zX (zU (zH ?_))))))))))))
               refine zO [.tmp 2, .tmp 3] [(S ([79, 78] : List UInt8)), (S ([79, 116, 104, 101, 114, 95, 78, 101, 117, 116, 114, 97, 108] : List UInt8))] rfl rfl ⟨by kernel_rfl, by kernel_rfl, trivial⟩ ?_
               have hE : (([79, 78] : List UInt8) = shortS c) ∧ (([79, 116, 104, 101, 114, 95, 78, 101, 117, 116, 114, 97, 108] : List UInt8) = longS c) := ⟨(by subst_vars; kernel_rfl), (by subst_vars; kernel_rfl)⟩
               exact ⟨xG (congrArg S hE.1) (congrArg S hE.2), hb⟩
              ·intro h28
               replace h28 : c ≠ 14 := by omega
               refine zJ (zE (zA (K11 zN (zV (zP (zA (zF (zD (zI (K22 (yA 114 [(.int .u8 c)]) (c_words_formats c _) ?_))))))))))
               rintro _ w29 ⟨rfl, hB30⟩
               replace hb := hb.trans (hB30.mono hs)
               replace hs := Nat.le_trans hs (hB30.size)
               refine K21 (zQ (S (shortF c))) (K21 (zQ (S (longF c))) (zJ (zJ (zE (zA (zX ?_))))))
               refine zO [.tmp 2, .tmp 3] [(S (shortF c)), (S (longF c))] rfl rfl ⟨by kernel_rfl, by kernel_rfl, trivial⟩ ?_
               have hE : (shortF c = shortS c) ∧ (longF c = longS c) := ⟨(by rw [shortF_eq (by omega)]), (by rw [longF_eq (by omega)])⟩
               exact ⟨xG (congrArg S hE.1) (congrArg S hE.2), hb⟩
theorem c_words_Short (c : Int) (w : World) (hc : 0 ≤ c) :
  Calls Tryz.prog 46 #[(.int .u8 c)] w (Ret fun v w' => v = (.tuple #[(S (shortS c)), (.int .i64 (toldE c))]) ∧ Below w.heap.size w w') := by
 refine K11 (enter (args := [(.int .u8 c)]) Tryz.func46 rfl (by kernel_rfl : _ = 14)) ?_
 have hb := Below.refl w.heap.size w
 have hs : w.heap.size ≤ w.heap.size := Nat.le_refl _
 refine zF (zD (zJ (zJ (zE (zA (zF (zD (zI (K22 (yA 76 [(.int .u8 c)]) (c_words_names c _ (by omega)) ?_)))))))))
 rintro _ w1 ⟨rfl, hB2⟩
 replace hb := hb.trans (hB2.mono hs)
 replace hs := Nat.le_trans hs (hB2.size)
 have := shortS_len c
 have := longS_len c
 refine zI (K21 (zQ (S (shortS c))) (K21 (zQ (S (longS c))) (zJ (zJ (zE (zA (zF (zF (zD (zI (K22 (L_seq (shortS c) ([] : List UInt8) rfl) ?_ ?_)))))))))))
 ·intro h4
  refine zE (zA (K11 zS (zF (zD (zJ (zJ (zE (zA (zX (zH ?_))))))))))
  refine zO [.tmp 2, .tmp 3] [(S ([] : List UInt8)), (.int .i64 2)] rfl rfl ⟨by kernel_rfl, by kernel_rfl, trivial⟩ ?_
  have hE : (([] : List UInt8) = shortS c) ∧ ((2 : Int) = toldE c) := ⟨(by first | rfl | (simp [*]; done)), (by (rw [shortS_nil] at *; simp [toldE, *]; done))⟩
  exact ⟨xG (congrArg S hE.1) (congrArg (Value.int .i64) hE.2), hb⟩
 ·intro h5
  refine zE (zA (K11 zN (zV (zA (zF (zD (zI (zJ (zJ (zE (zA (zX ?_))))))))))))
  refine zO [.tmp 2, .tmp 3] [(S (shortS c)), (.int .i64 0)] rfl rfl ⟨by kernel_rfl, by kernel_rfl, trivial⟩ ?_
  have hE : (shortS c = shortS c) ∧ ((0 : Int) = toldE c) := ⟨(by first | rfl | (simp [*]; done)), (by (have hx := mt shortS_nil.2 (by assumption); simp at hx; simp [toldE, hx]))⟩
  exact ⟨xG (congrArg S hE.1) (congrArg (Value.int .i64) hE.2), hb⟩
theorem c_words_Long (c : Int) (w : World) (hc : 0 ≤ c) :
  Calls Tryz.prog 45 #[(.int .u8 c)] w (Ret fun v w' => v = (.tuple #[(S (longS c)), (.int .i64 (toldE c))]) ∧ Below w.heap.size w w') := by
 refine K11 (enter (args := [(.int .u8 c)]) Tryz.func45 rfl (by kernel_rfl : _ = 14)) ?_
 have hb := Below.refl w.heap.size w
 have hs : w.heap.size ≤ w.heap.size := Nat.le_refl _
 refine zF (zD (zJ (zJ (zE (zA (zF (zD (zI (K22 (yA 76 [(.int .u8 c)]) (c_words_names c _ (by omega)) ?_)))))))))
 rintro _ w1 ⟨rfl, hB2⟩
 replace hb := hb.trans (hB2.mono hs)
 replace hs := Nat.le_trans hs (hB2.size)
 have := shortS_len c
 have := longS_len c
 refine zI (K21 (zQ (S (shortS c))) (K21 (zQ (S (longS c))) (zJ (zJ (zE (zA (zF (zF (zD (zI (K22 (L_seq (longS c) ([] : List UInt8) rfl) ?_ ?_)))))))))))
 ·intro h4
  refine zE (zA (K11 zS (zF (zD (zJ (zJ (zE (zA (zX (zH ?_))))))))))
  refine zO [.tmp 2, .tmp 3] [(S ([] : List UInt8)), (.int .i64 2)] rfl rfl ⟨by kernel_rfl, by kernel_rfl, trivial⟩ ?_
  have hE : (([] : List UInt8) = longS c) ∧ ((2 : Int) = toldE c) := ⟨(by first | rfl | (simp [*]; done)), (by (rw [longS_nil] at *; simp [toldE, *]; done))⟩
  exact ⟨xG (congrArg S hE.1) (congrArg (Value.int .i64) hE.2), hb⟩
 ·intro h5
  refine zE (zA (K11 zN (zV (zA (zF (zD (zI (zJ (zJ (zE (zA (zX ?_))))))))))))
  refine zO [.tmp 2, .tmp 3] [(S (longS c)), (.int .i64 0)] rfl rfl ⟨by kernel_rfl, by kernel_rfl, trivial⟩ ?_
  have hE : (longS c = longS c) ∧ ((0 : Int) = toldE c) := ⟨(by first | rfl | (simp [*]; done)), (by (have hx := mt longS_nil.2 (by assumption); simp at hx; simp [toldE, hx]))⟩
  exact ⟨xG (congrArg S hE.1) (congrArg (Value.int .i64) hE.2), hb⟩
theorem c_words_Class (s : List UInt8) (w : World) (hs : s.length ≤ 1073741824) :
  Calls Tryz.prog 100 #[(S s)] w (Ret fun v w' => v = (.tuple #[(.int .u8 ((classF s).1)), (.int .i64 ((classF s).2))]) ∧ Below w.heap.size w w') := by
 refine K11 (enter (args := [(S s)]) Tryz.func100 rfl (by kernel_rfl : _ = 25)) ?_
 have hb := Below.refl w.heap.size w
 have hs : w.heap.size ≤ w.heap.size := Nat.le_refl _
 refine zF (zD (zJ (zJ (zE (zA (zF (zF (zD (zJ (zE (zA (yP ?_))))))))))))
 refine W_loop (fun m s0 w0 => ∃ (c : Int), (m = (24 - c).toNat) ∧ (s0.ds = []) ∧ (s0.f 0 = (S s)) ∧ (s0.f 4 = (.int .u8 c)) ∧ (Below w.heap.size w w0) ∧ (w.heap.size ≤ w0.heap.size) ∧ (1 ≤ c) ∧ (c ≤ 24) ∧ (classFrom s c = classF s)) _ ⟨1, rfl, by kernel_rfl, by kernel_rfl, by kernel_rfl, hb, hs, by omega, by omega, rfl⟩ ?_
 rintro m1 s2 w3 ⟨c, hm, hds, f_0, f_4, hb, hs, i1, i2, i3⟩
 refine yK 0 _ f_0 (yK 4 _ f_4 ?_)
 clear f_0 f_4
 refine zF (zF (zD (zI (K22 (yD .u8 c 23 (c ≤ 23) rfl (cmp_le c 23)) ?_ ?_))))
 ·intro h4
  replace h4 : c ≤ 23 := by omega
  refine zE (zA (K11 zS (zV (zA (zF (yP (zF (zD (zI (K22 (yA 76 [(.int .u8 c)]) (c_words_names c _ (by omega)) ?_))))))))))
  rintro _ w5 ⟨rfl, hB6⟩
  replace hb := hb.trans (hB6.mono hs)
  replace hs := Nat.le_trans hs (hB6.size)
  have := shortS_len c
  have := longS_len c
  refine zI (K21 (zQ (S (shortS c))) (K21 (zQ (S (longS c))) (zJ (zJ (zE (zA (zF (zD (zI (zI (K22 (yA 133 [(S s), (S (shortS c))]) (c_words_Alike s (shortS c) _ (by omega) (by omega)) ?_)))))))))))
  rintro _ w8 ⟨rfl, hB9⟩
  replace hb := hb.trans (hB9.mono hs)
  replace hs := Nat.le_trans hs (hB9.size)
  refine xK (alikeB s (shortS c)) ?_ ?_
  ·intro h11
   refine zI (K11 yC (K11 yC (K11 yC (K11 yU (zE (zA (K11 zS (zF (zD (zI (zJ (zJ (zE (zA (zX (zU (zH (zH (zU (zH ?_))))))))))))))))))))
   refine zO [.tmp 2, .tmp 3] [(.int .u8 c), (.int .i64 0)] rfl hds ⟨by kernel_rfl, by kernel_rfl, trivial⟩ ?_
   have hE : ((c : Int) = (classF s).1) ∧ ((0 : Int) = (classF s).2) := ⟨(by (rw [← i3, classFrom_step (c := c) (by omega)]; simp [*]; done)), (by (rw [← i3, classFrom_step (c := c) (by omega)]; simp [*]; done))⟩
   exact ⟨xG (congrArg (Value.int .u8) hE.1) (congrArg (Value.int .i64) hE.2), hb⟩
  ·intro h12
   refine zI (K11 zY (zI (K11 zY (zI (K11 zY (K22 (yA 133 [(S s), (S (longS c))]) (c_words_Alike s (longS c) _ (by omega) (by omega)) ?_))))))
   rintro _ w13 ⟨rfl, hB14⟩
   replace hb := hb.trans (hB14.mono hs)
   replace hs := Nat.le_trans hs (hB14.size)
   refine xK (alikeB s (longS c)) ?_ ?_
   ·intro h16
    refine K11 yV (zE (zA (K11 zS (zF (zD (zI (zJ (zJ (zE (zA (zX (zU (zH (zH (zU (zH ?_))))))))))))))))
    refine zO [.tmp 2, .tmp 3] [(.int .u8 c), (.int .i64 0)] rfl hds ⟨by kernel_rfl, by kernel_rfl, trivial⟩ ?_
    have hE : ((c : Int) = (classF s).1) ∧ ((0 : Int) = (classF s).2) := ⟨(by (rw [← i3, classFrom_step (c := c) (by omega)]; simp [*]; done)), (by (rw [← i3, classFrom_step (c := c) (by omega)]; simp [*]; done))⟩
    exact ⟨xG (congrArg (Value.int .u8) hE.1) (congrArg (Value.int .i64) hE.2), hb⟩
   ·intro h17
    refine K11 yV (zE (zA (K11 zN (zV (zP (zA (zD (zI (K22 (xS c 1 (c + 1) rfl) (wrap_u8 _ (by simp only [arithZ]; omega) (by simp only [arithZ]; omega)) (zJ (zE ?_)))))))))))
    refine zA ⟨_, ?_, (c + 1), rfl, hds, by kernel_rfl, by kernel_rfl, hb, hs, ?_, ?_, ?_⟩
    ·omega
    ·omega
    ·omega
    ·rw [← i3, classFrom_step (c := c) (by omega)]; simp [*]
 ·intro h18
  replace h18 : 23 < c := by omega
  refine zE (zA (K11 zN (W_exit (yM (yM (xM (zA (zF (zD (zJ (zJ (zE (zA (zX ?_))))))))))))))
  refine zO [.tmp 2, .tmp 3] [(.int .u8 0), (.int .i64 50)] rfl hds ⟨by kernel_rfl, by kernel_rfl, trivial⟩ ?_
  have hE : ((0 : Int) = (classF s).1) ∧ ((50 : Int) = (classF s).2) := ⟨(by (rw [← i3, classFrom_end (c := c) (by omega)]; done)), (by (rw [← i3, classFrom_end (c := c) (by omega)]; done))⟩
  exact ⟨xG (congrArg (Value.int .u8) hE.1) (congrArg (Value.int .i64) hE.2), hb⟩
theorem c_points_May (lo : Int) (hi : Int) (w : World) :
  Calls Tryz.prog 64 #[(Value.agg #[(.int .i32 lo), (.int .i32 hi)])] w (Ret fun v w' => v = (.bool (mayF lo hi)) ∧ Below w.heap.size w w') := by
 refine K11 (enter (args := [(Value.agg #[(.int .i32 lo), (.int .i32 hi)])]) Tryz.func64 rfl (by kernel_rfl : _ = 18)) ?_
 have hb := Below.refl w.heap.size w
 have hs : w.heap.size ≤ w.heap.size := Nat.le_refl _
 refine zF (zD (K21 (yW (fun b => .pointer (some ⟨b, 0, none⟩)) (.cells [(.int .i32 lo), (.int .i32 hi)].toArray 32 (0, 0))) ?_))
 intro b1 w2 hN3
 have g_x1 : w.heap.size ≤ b1 := by rw [hN3.num]; exact hs
 replace hb := hb.trans (hN3.below.mono hs)
 replace hs := Nat.le_trans hs (hN3.below.size)
 have o_x1 := hN3.here
 refine zJ (zE (zA (zF (zD (K21 (zQ (.pointer (some ⟨b1, 0, none⟩))) (K22 (zZ b1 0 (.int .i32 lo)) (zM o_x1 rfl) (K22 (yD .i32 lo 0 (0 ≤ lo) rfl (cmp_ge lo 0)) ?_ ?_)))))))
 ·intro h4
  replace h4 : 0 ≤ lo := by omega
  refine zI (K11 zY (K21 (zQ (.pointer (some ⟨b1, 0, none⟩))) (K11 zY (K22 (zZ b1 0 (.int .i32 lo)) (zM o_x1 rfl) (K11 zY (K21 (zQ (.pointer (some ⟨b1, 1, none⟩))) (K11 zY (K22 (zZ b1 1 (.int .i32 hi)) (zM o_x1 rfl) (K11 zY (K22 (yD .i32 lo hi (lo ≤ hi) rfl (cmp_le lo hi)) ?_ ?_))))))))))
  ·intro h5
   replace h5 : lo ≤ hi := by omega
   refine K11 yU (zI (K11 zY (K21 (zQ (.pointer (some ⟨b1, 1, none⟩))) (K11 zY (K22 (zZ b1 1 (.int .i32 hi)) (zM o_x1 rfl) (K11 zY (K22 (yD .i32 hi 1114111 (hi ≤ 1114111) rfl (cmp_le hi 1114111)) ?_ ?_)))))))
   ·intro h6
    replace h6 : hi ≤ 1114111 := by omega
    refine K11 yU (zJ (zE (zA (zX ?_))))
    refine zO [.tmp 2] [(.bool true)] rfl rfl ⟨by kernel_rfl, trivial⟩ ?_
    have e0 : true = mayF lo hi := by exact (mayF_true (by omega) (by omega) (by omega)).symm
    exact ⟨congrArg Value.bool e0, hb⟩
   ·intro h7
    replace h7 : 1114111 < hi := by omega
    refine K11 yU (zJ (zE (zA (zX ?_))))
    refine zO [.tmp 2] [(.bool false)] rfl rfl ⟨by kernel_rfl, trivial⟩ ?_
    have e0 : false = mayF lo hi := by exact (mayF_false (by omega)).symm
    exact ⟨congrArg Value.bool e0, hb⟩
  ·intro h8
   replace h8 : hi < lo := by omega
   refine K11 yU (zI (K11 yC (K11 yC (K11 yC (K11 yV (zJ (zE (zA (zX ?_)))))))))
   refine zO [.tmp 2] [(.bool false)] rfl rfl ⟨by kernel_rfl, trivial⟩ ?_
   have e0 : false = mayF lo hi := by exact (mayF_false (by omega)).symm
   exact ⟨congrArg Value.bool e0, hb⟩
 ·intro h9
  replace h9 : lo < 0 := by omega
  refine zI (K11 yC (K11 yC (K11 yC (K11 yC (K11 yC (K11 yV (zI (K11 yC (K11 yC (K11 yC (K11 yV (zJ (zE (zA (zX ?_)))))))))))))))
  refine zO [.tmp 2] [(.bool false)] rfl rfl ⟨by kernel_rfl, trivial⟩ ?_
  have e0 : false = mayF lo hi := by exact (mayF_false (by omega)).symm
  exact ⟨congrArg Value.bool e0, hb⟩
theorem c_points_Hex (s : List UInt8) (w : World) (hs : s.length ≤ 1073741824) :
  Calls Tryz.prog 132 #[(S s)] w (Ret fun v w' => v = (.tuple #[(.int .i32 ((hexF s).1)), (.int .i64 ((hexF s).2))]) ∧ Below w.heap.size w w') := by
 refine K11 (enter (args := [(S s)]) Tryz.func132 rfl (by kernel_rfl : _ = 45)) ?_
 have hb := Below.refl w.heap.size w
 have hs : w.heap.size ≤ w.heap.size := Nat.le_refl _
 refine zF (zD (zJ (zJ (zE (zA (zF (zF (zD (zI (K11 (L_slen 9 s rfl Tryz.underlying9) (K22 (yD .i64 (((s).length : Nat) : Int) ((4 : Nat) : Int) ((s).length < 4) rfl (cmpN_lt ((s).length) 4)) ?_ ?_)))))))))))
 ·intro h1
  replace h1 : (s).length < 4 := by omega
  refine zI (K11 yC (K11 yC (K11 yC (K11 yU (zI (K11 yC (K11 yC (K11 yC (K11 yC (K11 yC (K11 yC (K11 yC (K11 yC (K11 yU (zE (zA (K11 zS (zF (zD (zJ (zJ (zE (zA (zX (zH ?_)))))))))))))))))))))))))
  refine zO [.tmp 2, .tmp 3] [(.int .i32 0), (.int .i64 40)] rfl rfl ⟨by kernel_rfl, by kernel_rfl, trivial⟩ ?_
  have hE : ((0 : Int) = (hexF s).1) ∧ ((40 : Int) = (hexF s).2) := ⟨(by (rw [hexF_len (by omega)]; done)), (by (rw [hexF_len (by omega)]; done))⟩
  exact ⟨xG (congrArg (Value.int .i32) hE.1) (congrArg (Value.int .i64) hE.2), hb⟩
 ·intro h2
  replace h2 : 4 ≤ (s).length := by omega
  refine zI (K11 zY (zI (K11 zY (K11 (L_slen 9 s rfl Tryz.underlying9) (K11 zY (K22 (yD .i64 (((s).length : Nat) : Int) ((6 : Nat) : Int) (6 < (s).length) rfl (cmpN_gt ((s).length) 6)) ?_ ?_))))))
  ·intro h3
   replace h3 : 6 < (s).length := by omega
   refine K11 yV (zI (K11 yC (K11 yC (K11 yC (K11 yC (K11 yC (K11 yC (K11 yC (K11 yC (K11 yU (zE (zA (K11 zS (zF (zD (zJ (zJ (zE (zA (zX (zH ?_)))))))))))))))))))))
   refine zO [.tmp 2, .tmp 3] [(.int .i32 0), (.int .i64 40)] rfl rfl ⟨by kernel_rfl, by kernel_rfl, trivial⟩ ?_
   have hE : ((0 : Int) = (hexF s).1) ∧ ((40 : Int) = (hexF s).2) := ⟨(by (rw [hexF_len (by omega)]; done)), (by (rw [hexF_len (by omega)]; done))⟩
   exact ⟨xG (congrArg (Value.int .i32) hE.1) (congrArg (Value.int .i64) hE.2), hb⟩
  ·intro h4
   replace h4 : (s).length ≤ 6 := by omega
   refine K11 yV (zI (K11 zY (zI (K11 zY (K11 (L_slen 9 s rfl Tryz.underlying9) (K11 zY (K22 (yD .i64 (((s).length : Nat) : Int) ((4 : Nat) : Int) (4 < (s).length) rfl (cmpN_gt ((s).length) 4)) ?_ ?_)))))))
   ·intro h5
    replace h5 : 4 < (s).length := by omega
    refine K11 zY (zI (K11 zY (zI (K11 zY ?_))))
    have hz := yT s 0 (by omega); obtain ⟨c6, hc7⟩ := hz
    have := c6.toNat_lt
    have hdr := digitV_range c6.toNat
    have hib := ibF_tab c6
    refine K21 (L_sindex (k := .i64) s 0 c6 Tryz.underlying9 hc7) (K11 zY (K22 (yD .u8 ((c6.toNat : Nat) : Int) ((48 : Nat) : Int) (c6.toNat = 48) rfl (cmpN_eq c6.toNat 48)) ?_ ?_))
    ·intro h8
     replace h8 : c6.toNat = 48 := by omega
     refine K11 zY (K11 yU (K11 yV (zE (zA (K11 zS (zF (zD (zJ (zJ (zE (zA (zX (zH ?_)))))))))))))
     refine zO [.tmp 2, .tmp 3] [(.int .i32 0), (.int .i64 40)] rfl rfl ⟨by kernel_rfl, by kernel_rfl, trivial⟩ ?_
     have hE : ((0 : Int) = (hexF s).1) ∧ ((40 : Int) = (hexF s).2) := ⟨(by (rw [hexF_zero (by omega) (by assumption) (by omega)]; done)), (by (rw [hexF_zero (by omega) (by assumption) (by omega)]; done))⟩
     exact ⟨xG (congrArg (Value.int .i32) hE.1) (congrArg (Value.int .i64) hE.2), hb⟩
    ·intro h9
     replace h9 : c6.toNat ≠ 48 := by omega
     refine K11 zY (K11 yU (K11 yV (zE (zA (K11 zN (zV (zA (zF (zD (zJ (zE (zA (zF (zF (zD (zI (K11 (L_slen 9 s rfl Tryz.underlying9) (zI (zE (zA (yP ?_)))))))))))))))))))))
     refine W_loop (fun m s0 w0 => ∃ (i : Nat) (n : Nat), (m = s.length - i) ∧ (s0.ds = []) ∧ (s0.f 0 = (S s)) ∧ (s0.f 26 = (.int .i64 (((s).length : Nat) : Int))) ∧ (s0.f 4 = (.int .i32 ((n : Nat) : Int))) ∧ (s0.f 27 = (.int .i64 ((i : Nat) : Int))) ∧ (Below w.heap.size w w0) ∧ (w.heap.size ≤ w0.heap.size) ∧ (i ≤ s.length) ∧ (n < 16 ^ i) ∧ (hexV (s.drop i) n = hexV s 0)) _ ⟨0, 0, rfl, by kernel_rfl, by kernel_rfl, by kernel_rfl, by kernel_rfl, by kernel_rfl, hb, hs, by omega, by decide, rfl⟩ ?_
     rintro m10 s11 w12 ⟨i, n, hm, hds, f_0, f_26, f_4, f_27, hb, hs, i1, i2, i3⟩
     refine yK 0 _ f_0 (yK 26 _ f_26 (yK 4 _ f_4 (yK 27 _ f_27 ?_)))
     clear f_0 f_26 f_4 f_27
     have hp5 : i ≤ 5 → n < 1048576 := pow16 i2
     have hp6 : i ≤ 6 → n < 16777216 := pow166 i2
     refine zF (zD (K22 (yD .i64 ((i : Nat) : Int) (((s).length : Nat) : Int) (i < (s).length) rfl (cmpN_lt i ((s).length))) ?_ ?_))
     ·intro h13
      replace h13 : i < (s).length := by omega
      refine zE (zA (zF (K11 zS (zV (zA (zF (yP (zF (zD (zI (zJ (zE (zA (zF (zD (zI (zI ?_)))))))))))))))))
      have hz := yT s i (by omega); obtain ⟨c14, hc15⟩ := hz
      have := c14.toNat_lt
      have hdr := digitV_range c14.toNat
      have hib := ibF_tab c14
      refine K21 (L_sindex (k := .i64) s i c14 Tryz.underlying9 hc15) (K22 (yA 127 [(S ([48, 49, 50, 51, 52, 53, 54, 55, 56, 57, 65, 66, 67, 68, 69, 70] : List UInt8)), (.int .u8 ((c14.toNat : Nat) : Int))]) (c_strings_IndexByte ([48, 49, 50, 51, 52, 53, 54, 55, 56, 57, 65, 66, 67, 68, 69, 70] : List UInt8) ((c14.toNat : Nat) : Int) _) ?_)
      rintro _ w16 ⟨rfl, hB17⟩
      replace hb := hb.trans (hB17.mono hs)
      replace hs := Nat.le_trans hs (hB17.size)
      have := ib_range ([48, 49, 50, 51, 52, 53, 54, 55, 56, 57, 65, 66, 67, 68, 69, 70] : List UInt8) ((c14.toNat : Nat) : Int)
      refine zJ (zE (zA (zF (zF (zD (zI (K22 (yD .i64 (ibF ([48, 49, 50, 51, 52, 53, 54, 55, 56, 57, 65, 66, 67, 68, 69, 70] : List UInt8) ((c14.toNat : Nat) : Int)) 0 ((ibF ([48, 49, 50, 51, 52, 53, 54, 55, 56, 57, 65, 66, 67, 68, 69, 70] : List UInt8) ((c14.toNat : Nat) : Int)) < 0) rfl (cmp_lt (ibF ([48, 49, 50, 51, 52, 53, 54, 55, 56, 57, 65, 66, 67, 68, 69, 70] : List UInt8) ((c14.toNat : Nat) : Int)) 0)) ?_ ?_)))))))
      ·intro h19
       replace h19 : (ibF ([48, 49, 50, 51, 52, 53, 54, 55, 56, 57, 65, 66, 67, 68, 69, 70] : List UInt8) ((c14.toNat : Nat) : Int)) < 0 := by omega
       refine zE (zA (K11 zS (zF (zD (zJ (zJ (zE (zA (zX (zH (zU (zH (zH (zU (zH ?_)))))))))))))))
       refine zO [.tmp 2, .tmp 3] [(.int .i32 0), (.int .i64 40)] rfl hds ⟨by kernel_rfl, by kernel_rfl, trivial⟩ ?_
       have hE : ((0 : Int) = (hexF s).1) ∧ ((40 : Int) = (hexF s).2) := ⟨(by (rw [hexF_bad i3 (by assumption) (by omega)]; done)), (by (rw [hexF_bad i3 (by assumption) (by omega)]; done))⟩
       exact ⟨xG (congrArg (Value.int .i32) hE.1) (congrArg (Value.int .i64) hE.2), hb⟩
      ·intro h20
       replace h20 : 0 ≤ (ibF ([48, 49, 50, 51, 52, 53, 54, 55, 56, 57, 65, 66, 67, 68, 69, 70] : List UInt8) ((c14.toNat : Nat) : Int)) := by omega
       refine zE (zA (K11 zN (zV (zA (zD (zI (K32 (L_shl (k := .i32) (yk := .u64) ((n : Nat) : Int) (((16 * n) : Nat) : Int) 4 16 rfl) (by rw [wrap_i32 _ (by omega) (by omega)]; omega) (zI (K12 (L_conv (k := .i64) (ibF ([48, 49, 50, 51, 52, 53, 54, 55, 56, 57, 65, 66, 67, 68, 69, 70] : List UInt8) ((c14.toNat : Nat) : Int)) (ibF ([48, 49, 50, 51, 52, 53, 54, 55, 56, 57, 65, 66, 67, 68, 69, 70] : List UInt8) ((c14.toNat : Nat) : Int)) (by kernel_rfl) Tryz.underlying21) (wrap_i32 _ (by omega) (by omega)) (K21 (L_orD (((16 * n) : Nat) : Int) (ibF ([48, 49, 50, 51, 52, 53, 54, 55, 56, 57, 65, 66, 67, 68, 69, 70] : List UInt8) ((c14.toNat : Nat) : Int)) n ((ibF ([48, 49, 50, 51, 52, 53, 54, 55, 56, 57, 65, 66, 67, 68, 69, 70] : List UInt8) ((c14.toNat : Nat) : Int)).toNat) (by omega) (by omega)) (zJ (zE (zP (zA (zD (K21 (xD i 1 (by omega)) (zI (zE ?_))))))))))))))))))
       refine zA ⟨_, ?_, (i + 1), (16 * n + ((ibF ([48, 49, 50, 51, 52, 53, 54, 55, 56, 57, 65, 66, 67, 68, 69, 70] : List UInt8) ((c14.toNat : Nat) : Int)).toNat)), rfl, hds, by kernel_rfl, by kernel_rfl, by kernel_rfl, by kernel_rfl, hb, hs, ?_, ?_, ?_⟩
       ·omega
       ·omega
       ·rw [hib]; exact pow16s i2 (by omega)
       ·rw [hib]; exact hexV_step i3 (by assumption) (by omega)
     ·intro h21
      replace h21 : (s).length ≤ i := by omega
      refine zE (zA (zF (K11 zN (W_exit (yM (yM (xM (zA (zF (zF (zD (zI (K22 (yD .i32 ((n : Nat) : Int) ((1114111 : Nat) : Int) (1114111 < n) rfl (cmpN_gt n 1114111)) ?_ ?_)))))))))))))
      ·intro h22
       replace h22 : 1114111 < n := by omega
       refine zE (zA (K11 zS (zF (zD (zJ (zJ (zE (zA (zX (zH ?_))))))))))
       refine zO [.tmp 2, .tmp 3] [(.int .i32 0), (.int .i64 40)] rfl hds ⟨by kernel_rfl, by kernel_rfl, trivial⟩ ?_
       have hE : ((0 : Int) = (hexF s).1) ∧ ((40 : Int) = (hexF s).2) := ⟨(by (rw [hexF_big (hexV_end i3 (by omega)) (by omega)]; done)), (by (rw [hexF_big (hexV_end i3 (by omega)) (by omega)]; done))⟩
       exact ⟨xG (congrArg (Value.int .i32) hE.1) (congrArg (Value.int .i64) hE.2), hb⟩
      ·intro h23
       replace h23 : n ≤ 1114111 := by omega
       refine zE (zA (K11 zN (zV (zA (zF (zD (zI (zJ (zJ (zE (zA (zX ?_))))))))))))
       refine zO [.tmp 2, .tmp 3] [(.int .i32 ((n : Nat) : Int)), (.int .i64 0)] rfl hds ⟨by kernel_rfl, by kernel_rfl, trivial⟩ ?_
       have hE : ((((n : Nat) : Int) : Int) = (hexF s).1) ∧ ((0 : Int) = (hexF s).2) := ⟨(by (rw [hexF_ok (hexV_end i3 (by omega)) (by omega) (by omega) (by omega) (.inr ⟨_, by assumption, by omega⟩)]; done)), (by (rw [hexF_ok (hexV_end i3 (by omega)) (by omega) (by omega) (by omega) (.inr ⟨_, by assumption, by omega⟩)]; done))⟩
       exact ⟨xG (congrArg (Value.int .i32) hE.1) (congrArg (Value.int .i64) hE.2), hb⟩
   ·intro h24
    replace h24 : (s).length ≤ 4 := by omega
    refine K11 zY (zI (K11 yC (K11 yC (K11 yC (K11 zY (K11 yV (K11 yV (zE (zA (K11 zN (zV (zA (zF (zD (zJ (zE (zA (zF (zF (zD (zI (K11 (L_slen 9 s rfl Tryz.underlying9) (zI (zE (zA (yP ?_))))))))))))))))))))))))))
    refine W_loop (fun m s0 w0 => ∃ (i : Nat) (n : Nat), (m = s.length - i) ∧ (s0.ds = []) ∧ (s0.f 0 = (S s)) ∧ (s0.f 26 = (.int .i64 (((s).length : Nat) : Int))) ∧ (s0.f 4 = (.int .i32 ((n : Nat) : Int))) ∧ (s0.f 27 = (.int .i64 ((i : Nat) : Int))) ∧ (Below w.heap.size w w0) ∧ (w.heap.size ≤ w0.heap.size) ∧ (i ≤ s.length) ∧ (n < 16 ^ i) ∧ (hexV (s.drop i) n = hexV s 0)) _ ⟨0, 0, rfl, by kernel_rfl, by kernel_rfl, by kernel_rfl, by kernel_rfl, by kernel_rfl, hb, hs, by omega, by decide, rfl⟩ ?_
    rintro m25 s26 w27 ⟨i, n, hm, hds, f_0, f_26, f_4, f_27, hb, hs, i1, i2, i3⟩
    refine yK 0 _ f_0 (yK 26 _ f_26 (yK 4 _ f_4 (yK 27 _ f_27 ?_)))
    clear f_0 f_26 f_4 f_27
    have hp5 : i ≤ 5 → n < 1048576 := pow16 i2
    have hp6 : i ≤ 6 → n < 16777216 := pow166 i2
    refine zF (zD (K22 (yD .i64 ((i : Nat) : Int) (((s).length : Nat) : Int) (i < (s).length) rfl (cmpN_lt i ((s).length))) ?_ ?_))
    ·intro h28
     replace h28 : i < (s).length := by omega
     refine zE (zA (zF (K11 zS (zV (zA (zF (yP (zF (zD (zI (zJ (zE (zA (zF (zD (zI (zI ?_)))))))))))))))))
     have hz := yT s i (by omega); obtain ⟨c29, hc30⟩ := hz
     have := c29.toNat_lt
     have hdr := digitV_range c29.toNat
     have hib := ibF_tab c29
     refine K21 (L_sindex (k := .i64) s i c29 Tryz.underlying9 hc30) (K22 (yA 127 [(S ([48, 49, 50, 51, 52, 53, 54, 55, 56, 57, 65, 66, 67, 68, 69, 70] : List UInt8)), (.int .u8 ((c29.toNat : Nat) : Int))]) (c_strings_IndexByte ([48, 49, 50, 51, 52, 53, 54, 55, 56, 57, 65, 66, 67, 68, 69, 70] : List UInt8) ((c29.toNat : Nat) : Int) _) ?_)
     rintro _ w31 ⟨rfl, hB32⟩
     replace hb := hb.trans (hB32.mono hs)
     replace hs := Nat.le_trans hs (hB32.size)
     have := ib_range ([48, 49, 50, 51, 52, 53, 54, 55, 56, 57, 65, 66, 67, 68, 69, 70] : List UInt8) ((c29.toNat : Nat) : Int)
     refine zJ (zE (zA (zF (zF (zD (zI (K22 (yD .i64 (ibF ([48, 49, 50, 51, 52, 53, 54, 55, 56, 57, 65, 66, 67, 68, 69, 70] : List UInt8) ((c29.toNat : Nat) : Int)) 0 ((ibF ([48, 49, 50, 51, 52, 53, 54, 55, 56, 57, 65, 66, 67, 68, 69, 70] : List UInt8) ((c29.toNat : Nat) : Int)) < 0) rfl (cmp_lt (ibF ([48, 49, 50, 51, 52, 53, 54, 55, 56, 57, 65, 66, 67, 68, 69, 70] : List UInt8) ((c29.toNat : Nat) : Int)) 0)) ?_ ?_)))))))
     ·intro h34
      replace h34 : (ibF ([48, 49, 50, 51, 52, 53, 54, 55, 56, 57, 65, 66, 67, 68, 69, 70] : List UInt8) ((c29.toNat : Nat) : Int)) < 0 := by omega
      refine zE (zA (K11 zS (zF (zD (zJ (zJ (zE (zA (zX (zH (zU (zH (zH (zU (zH ?_)))))))))))))))
      refine zO [.tmp 2, .tmp 3] [(.int .i32 0), (.int .i64 40)] rfl hds ⟨by kernel_rfl, by kernel_rfl, trivial⟩ ?_
      have hE : ((0 : Int) = (hexF s).1) ∧ ((40 : Int) = (hexF s).2) := ⟨(by (rw [hexF_bad i3 (by assumption) (by omega)]; done)), (by (rw [hexF_bad i3 (by assumption) (by omega)]; done))⟩
      exact ⟨xG (congrArg (Value.int .i32) hE.1) (congrArg (Value.int .i64) hE.2), hb⟩
     ·intro h35
      replace h35 : 0 ≤ (ibF ([48, 49, 50, 51, 52, 53, 54, 55, 56, 57, 65, 66, 67, 68, 69, 70] : List UInt8) ((c29.toNat : Nat) : Int)) := by omega
      refine zE (zA (K11 zN (zV (zA (zD (zI (K32 (L_shl (k := .i32) (yk := .u64) ((n : Nat) : Int) (((16 * n) : Nat) : Int) 4 16 rfl) (by rw [wrap_i32 _ (by omega) (by omega)]; omega) (zI (K12 (L_conv (k := .i64) (ibF ([48, 49, 50, 51, 52, 53, 54, 55, 56, 57, 65, 66, 67, 68, 69, 70] : List UInt8) ((c29.toNat : Nat) : Int)) (ibF ([48, 49, 50, 51, 52, 53, 54, 55, 56, 57, 65, 66, 67, 68, 69, 70] : List UInt8) ((c29.toNat : Nat) : Int)) (by kernel_rfl) Tryz.underlying21) (wrap_i32 _ (by omega) (by omega)) (K21 (L_orD (((16 * n) : Nat) : Int) (ibF ([48, 49, 50, 51, 52, 53, 54, 55, 56, 57, 65, 66, 67, 68, 69, 70] : List UInt8) ((c29.toNat : Nat) : Int)) n ((ibF ([48, 49, 50, 51, 52, 53, 54, 55, 56, 57, 65, 66, 67, 68, 69, 70] : List UInt8) ((c29.toNat : Nat) : Int)).toNat) (by omega) (by omega)) (zJ (zE (zP (zA (zD (K21 (xD i 1 (by omega)) (zI (zE ?_))))))))))))))))))
      refine zA ⟨_, ?_, (i + 1), (16 * n + ((ibF ([48, 49, 50, 51, 52, 53, 54, 55, 56, 57, 65, 66, 67, 68, 69, 70] : List UInt8) ((c29.toNat : Nat) : Int)).toNat)), rfl, hds, by kernel_rfl, by kernel_rfl, by kernel_rfl, by kernel_rfl, hb, hs, ?_, ?_, ?_⟩
      ·omega
      ·omega
      ·rw [hib]; exact pow16s i2 (by omega)
      ·rw [hib]; exact hexV_step i3 (by assumption) (by omega)
    ·intro h36
     replace h36 : (s).length ≤ i := by omega
     refine zE (zA (zF (K11 zN (W_exit (yM (yM (xM (zA (zF (zF (zD (zI (K22 (yD .i32 ((n : Nat) : Int) ((1114111 : Nat) : Int) (1114111 < n) rfl (cmpN_gt n 1114111)) ?_ ?_)))))))))))))
     ·intro h37
      replace h37 : 1114111 < n := by omega
      refine zE (zA (K11 zS (zF (zD (zJ (zJ (zE (zA (zX (zH ?_))))))))))
      refine zO [.tmp 2, .tmp 3] [(.int .i32 0), (.int .i64 40)] rfl hds ⟨by kernel_rfl, by kernel_rfl, trivial⟩ ?_
      have hE : ((0 : Int) = (hexF s).1) ∧ ((40 : Int) = (hexF s).2) := ⟨(by (exfalso; omega)), (by (exfalso; omega))⟩
      exact ⟨xG (congrArg (Value.int .i32) hE.1) (congrArg (Value.int .i64) hE.2), hb⟩
     ·intro h38
      replace h38 : n ≤ 1114111 := by omega
      refine zE (zA (K11 zN (zV (zA (zF (zD (zI (zJ (zJ (zE (zA (zX ?_))))))))))))
      refine zO [.tmp 2, .tmp 3] [(.int .i32 ((n : Nat) : Int)), (.int .i64 0)] rfl hds ⟨by kernel_rfl, by kernel_rfl, trivial⟩ ?_
      have hE : ((((n : Nat) : Int) : Int) = (hexF s).1) ∧ ((0 : Int) = (hexF s).2) := ⟨(by (rw [hexF_ok (hexV_end i3 (by omega)) (by omega) (by omega) (by omega) (.inl (by omega))]; done)), (by (rw [hexF_ok (hexV_end i3 (by omega)) (by omega) (by omega) (by omega) (.inl (by omega))]; done))⟩
      exact ⟨xG (congrArg (Value.int .i32) hE.1) (congrArg (Value.int .i64) hE.2), hb⟩
theorem c_slices_Reverse {B_ E_ : Nat} (v_s : Value) (s : List (Int)) (w : World) (p_s : Row w B_ E_ 1 encU8 v_s s)  :
  Calls Tryz.prog 112 #[v_s] w (Ret fun v w' => v = (.tuple #[]) ∧ Row w' B_ E_ 1 encU8 v_s (List.reverse s) ∧ w.grownBy w' (Value.ownBlock v_s)) :=
 reverse_contract (fun x : Int => Value.int .u8 x) (fun _ => rfl) (AnyE.slices_Reverse_empty laysRev) (AnyE.slices_Reverse laysRev _ (fun _ => rfl)) v_s s w p_s
theorem c_points_Show (r : Int) (w : World) :
  Calls Tryz.prog 74 #[(.int .i32 r)] w (Ret fun v w' => v = (.tuple #[(S ((showF r).1)), (.int .i64 ((showF r).2))]) ∧ Below w.heap.size w w') := by
 refine K11 (enter (args := [(.int .i32 r)]) Tryz.func74 rfl (by kernel_rfl : _ = 32)) ?_
 have hb := Below.refl w.heap.size w
 have hs : w.heap.size ≤ w.heap.size := Nat.le_refl _
 refine zF (zD (zJ (zJ (zE (zA (zF (zF (zD (zI (K22 (yD .i32 r 0 (r < 0) rfl (cmp_lt r 0)) ?_ ?_))))))))))
 ·intro h1
  replace h1 : r < 0 := by omega
  refine zI (K11 yC (K11 yC (K11 yU (zE (zA (K11 zS (zF (zD (zJ (zJ (zE (zA (zX (zH ?_))))))))))))))
  refine zO [.tmp 2, .tmp 3] [(S ([] : List UInt8)), (.int .i64 40)] rfl rfl ⟨by kernel_rfl, by kernel_rfl, trivial⟩ ?_
  have hE : (([] : List UInt8) = (showF r).1) ∧ ((40 : Int) = (showF r).2) := ⟨(by (rw [showF_bad (by omega)]; done)), (by (rw [showF_bad (by omega)]; done))⟩
  exact ⟨xG (congrArg S hE.1) (congrArg (Value.int .i64) hE.2), hb⟩
 ·intro h2
  replace h2 : 0 ≤ r := by omega
  refine zI (K11 zY (zI (K11 zY (K22 (yD .i32 r 1114111 (1114111 < r) rfl (cmp_gt r 1114111)) ?_ ?_))))
  ·intro h3
   replace h3 : 1114111 < r := by omega
   refine K11 yV (zE (zA (K11 zS (zF (zD (zJ (zJ (zE (zA (zX (zH ?_)))))))))))
   refine zO [.tmp 2, .tmp 3] [(S ([] : List UInt8)), (.int .i64 40)] rfl rfl ⟨by kernel_rfl, by kernel_rfl, trivial⟩ ?_
   have hE : (([] : List UInt8) = (showF r).1) ∧ ((40 : Int) = (showF r).2) := ⟨(by (rw [showF_bad (by omega)]; done)), (by (rw [showF_bad (by omega)]; done))⟩
   exact ⟨xG (congrArg S hE.1) (congrArg (Value.int .i64) hE.2), hb⟩
  ·intro h4
   replace h4 : r ≤ 1114111 := by omega
   refine K11 yV (zE (zA (K11 zN (zV (zA (zF (zD (zJ (zE (zA (zF (zF (zD (zI (zJ (zE (zA (yP ?_))))))))))))))))))
   refine W_loop (fun m s0 w0 => ∃ (acc : List Int) (z : Int) (v_4 : Value), (m = 10 - acc.length) ∧ (s0.ds = []) ∧ (s0.f 2 = (S ([] : List UInt8))) ∧ (s0.f 3 = (.int .i64 0)) ∧ (s0.f 4 = v_4) ∧ (s0.f 5 = (.int .i32 z)) ∧ (Row w0 w.heap.size 5 1 encU8 v_4 acc) ∧ (Below w.heap.size w w0) ∧ (w.heap.size ≤ w0.heap.size) ∧ (acc.length ≤ cntD r.toNat) ∧ (z = ((r.toNat / 16 ^ acc.length : Nat) : Int)) ∧ (acc = lowB (digsD r.toNat acc.length))) _ ⟨[], r, (.slice none 0 0), rfl, by kernel_rfl, by kernel_rfl, by kernel_rfl, by kernel_rfl, by kernel_rfl, Row.nil _ _ _ _ _, hb, hs, Nat.zero_le _, by simp; omega, rfl⟩ ?_
   rintro m5 s6 w7 ⟨acc, z, v_4, hm, hds, f_2, f_3, f_4, f_5, r_4, hb, hs, i1, i2, i3⟩
   refine yK 2 _ f_2 (yK 3 _ f_3 (yK 4 _ f_4 (yK 5 _ f_5 ?_)))
   clear f_2 f_3 f_4 f_5
   have hcd := cntD_le r.toNat
   have hfz := show_factsR i1 i2 (by omega)
   refine zF (zF (zD (zI (K22 (yD .i32 z 0 (0 < z) rfl (cmp_gt z 0)) ?_ ?_))))
   ·intro h8
    replace h8 : 0 < z := by omega
    refine zI (K11 yC (K11 yC (K11 yC (K11 yU (zE (zA (K11 zS (zV (zA (zF (yP (zD (zI (zI (K21 (L_and15 z z.toNat (by omega)) ?_)))))))))))))))
    have hz := yT ([48, 49, 50, 51, 52, 53, 54, 55, 56, 57, 65, 66, 67, 68, 69, 70] : List UInt8) (z.toNat % 16) (by (rw [show (([48, 49, 50, 51, 52, 53, 54, 55, 56, 57, 65, 66, 67, 68, 69, 70] : List UInt8)).length = 16 from rfl]; omega)); obtain ⟨c9, hc10⟩ := hz
    have := c9.toNat_lt
    refine K21 (L_sindex (k := .i32) ([48, 49, 50, 51, 52, 53, 54, 55, 56, 57, 65, 66, 67, 68, 69, 70] : List UInt8) (z.toNat % 16) c9 Tryz.underlying9 hc10) (K21 (L_app el84 w.heap.size v_4 acc ((c9.toNat : Nat) : Int) hs r_4 (by omega) (by kernel_rfl) rfl rfl (by kernel_rfl) rfl) ?_)
    intro v11 w12 hr13 hg14 how15
    replace hb := hb.grown hg14 hs (fun k hk => (World.ownsRow.lt r_4 k hk).1)
    replace hs := Nat.le_trans hs (hg14.size)
    replace r_4 := hr13
    refine zJ (zE (zP (zA (zD (zI (K31 (L_shr (k := .i32) (yk := .u64) z 4 16 rfl) (zJ (zE ?_))))))))
    refine zA ⟨_, ?_, (acc ++ [((c9.toNat : Nat) : Int)]), (z / 16), v11, rfl, hds, by kernel_rfl, by kernel_rfl, by kernel_rfl, by kernel_rfl, r_4, hb, hs, ?_, ?_, ?_⟩
    ·simp; omega
    ·simp; omega
    ·exact (show_stepR i2 i3 (by assumption)).1
    ·exact (show_stepR i2 i3 (by assumption)).2
   ·intro h16
    replace h16 : z ≤ 0 := by omega
    refine zI (K11 zY (zI (K11 zY (K11 (L_len 84 5 (acc).length v_4 rfl Tryz.underlying84 (r_4.rd).len) (K11 zY (K22 (yD .i64 (((acc).length : Nat) : Int) ((4 : Nat) : Int) ((acc).length < 4) rfl (cmpN_lt ((acc).length) 4)) ?_ ?_))))))
    ·intro h17
     replace h17 : (acc).length < 4 := by omega
     refine K11 yV (zE (zA (K11 zS (zV (zA (zF (yP (zD (zI (zI (K21 (L_and15 z z.toNat (by omega)) ?_)))))))))))
     have hz := yT ([48, 49, 50, 51, 52, 53, 54, 55, 56, 57, 65, 66, 67, 68, 69, 70] : List UInt8) (z.toNat % 16) (by (rw [show (([48, 49, 50, 51, 52, 53, 54, 55, 56, 57, 65, 66, 67, 68, 69, 70] : List UInt8)).length = 16 from rfl]; omega)); obtain ⟨c18, hc19⟩ := hz
     have := c18.toNat_lt
     refine K21 (L_sindex (k := .i32) ([48, 49, 50, 51, 52, 53, 54, 55, 56, 57, 65, 66, 67, 68, 69, 70] : List UInt8) (z.toNat % 16) c18 Tryz.underlying9 hc19) (K21 (L_app el84 w.heap.size v_4 acc ((c18.toNat : Nat) : Int) hs r_4 (by omega) (by kernel_rfl) rfl rfl (by kernel_rfl) rfl) ?_)
     intro v20 w21 hr22 hg23 how24
     replace hb := hb.grown hg23 hs (fun k hk => (World.ownsRow.lt r_4 k hk).1)
     replace hs := Nat.le_trans hs (hg23.size)
     replace r_4 := hr22
     refine zJ (zE (zP (zA (zD (zI (K31 (L_shr (k := .i32) (yk := .u64) z 4 16 rfl) (zJ (zE ?_))))))))
     refine zA ⟨_, ?_, (acc ++ [((c18.toNat : Nat) : Int)]), (z / 16), v20, rfl, hds, by kernel_rfl, by kernel_rfl, by kernel_rfl, by kernel_rfl, r_4, hb, hs, ?_, ?_, ?_⟩
     ·simp; omega
     ·simp; omega
     ·exact (show_stepR i2 i3 (by assumption)).1
     ·exact (show_stepR i2 i3 (by assumption)).2
    ·intro h25
     replace h25 : 4 ≤ (acc).length := by omega
     refine K11 yV (zE (zA (K11 zN (W_exit (yM (yM (xM (zA (zF (zD (zI (K22 (yA 112 [v_4]) (c_slices_Reverse v_4 acc _ r_4) ?_))))))))))))
     rintro _ w26 ⟨rfl, hr27, hg28⟩
     replace hb := hb.grown hg28 hs (fun k hk => (World.ownsRow.lt r_4 k hk).1)
     replace hs := Nat.le_trans hs (hg28.size)
     replace r_4 := hr27
     refine zE (zA (zF (zD (zI (K12 (L_bytesStr v_4 (List.reverse acc) Tryz.underlying84 Tryz.underlying5 Tryz.underlying9) r_4.rd (zJ (zJ (zE (zA (zX ?_))))))))))
     refine zO [.tmp 2, .tmp 3] [(S (bytesI (List.reverse acc))), (.int .i64 0)] rfl hds ⟨by kernel_rfl, by kernel_rfl, trivial⟩ ?_
     have hE : ((bytesI (List.reverse acc)) = (showF r).1) ∧ ((0 : Int) = (showF r).2) := ⟨(by (rw [showF_ok (by omega) (by omega)]; first | done | exact show_endR i1 i2 i3 (by omega) (by omega))), (by (rw [showF_ok (by omega) (by omega)]; first | done | exact show_endR i1 i2 i3 (by omega) (by omega)))⟩
     exact ⟨xG (congrArg S hE.1) (congrArg (Value.int .i64) hE.2), hb⟩
theorem c_points_ShowSpan (lo : Int) (hi : Int) (w : World) :
  Calls Tryz.prog 43 #[(Value.agg #[(.int .i32 lo), (.int .i32 hi)])] w (Ret fun v w' => v = (.tuple #[(S ((showSpanF lo hi).1)), (.int .i64 ((showSpanF lo hi).2))]) ∧ Below w.heap.size w w') := by
 refine K11 (enter (args := [(Value.agg #[(.int .i32 lo), (.int .i32 hi)])]) Tryz.func43 rfl (by kernel_rfl : _ = 33)) ?_
 have hb := Below.refl w.heap.size w
 have hs : w.heap.size ≤ w.heap.size := Nat.le_refl _
 have hl1 := showF_len lo
 have hl2 := showF_len hi
 refine zF (zD (K21 (yW (fun b => .pointer (some ⟨b, 0, none⟩)) (.cells [(.int .i32 lo), (.int .i32 hi)].toArray 32 (0, 0))) ?_))
 intro b1 w2 hN3
 have g_x1 : w.heap.size ≤ b1 := by rw [hN3.num]; exact hs
 replace hb := hb.trans (hN3.below.mono hs)
 replace hs := Nat.le_trans hs (hN3.below.size)
 have o_x1 := hN3.here
 refine zJ (zJ (zE (zA (zF (zF (zD (K32 (yH b1 0 [(.int .i32 lo), (.int .i32 hi)]) (K10 (yN o_x1 0)) (K22 (yA 64 [(Value.agg #[(.int .i32 lo), (.int .i32 hi)])]) (c_points_May lo hi _) ?_))))))))
 rintro _ w4 ⟨rfl, hB5⟩
 replace hb := hb.trans (hB5.mono hs)
 replace hs := Nat.le_trans hs (hB5.size)
 replace o_x1 := zB o_x1 hB5
 refine xK (mayF lo hi) ?_ ?_
 ·intro h7
  refine K11 (L_not true) (zE (zA (K11 zN (zV (zA (zF (zD (K21 (zQ (.pointer (some ⟨b1, 0, none⟩))) (K22 (zZ b1 0 (.int .i32 lo)) (zM o_x1 rfl) (K22 (yA 74 [(.int .i32 lo)]) (c_points_Show lo _) ?_))))))))))
  rintro _ w8 ⟨rfl, hB9⟩
  replace hb := hb.trans (hB9.mono hs)
  replace hs := Nat.le_trans hs (hB9.size)
  replace o_x1 := zB o_x1 hB9
  refine zI (K21 (zQ (S ((showF lo).1))) (K21 (zQ (.int .i64 ((showF lo).2))) (zJ (zJ (zE (zA (zF (zF (zD (K21 (zQ (.pointer (some ⟨b1, 0, none⟩))) (K22 (zZ b1 0 (.int .i32 lo)) (zM o_x1 rfl) (K21 (zQ (.pointer (some ⟨b1, 1, none⟩))) (K22 (zZ b1 1 (.int .i32 hi)) (zM o_x1 rfl) (K22 (yD .i32 lo hi (lo = hi) rfl (xB lo hi)) ?_ ?_))))))))))))))
  ·intro h11
   replace h11 : lo = hi := by omega
   refine zE (zA (K11 zS (zF (zD (zI (zJ (zJ (zE (zA (zX (zH ?_)))))))))))
   refine zO [.tmp 2, .tmp 3] [(S ((showF lo).1)), (.int .i64 0)] rfl rfl ⟨by kernel_rfl, by kernel_rfl, trivial⟩ ?_
   have hE : ((showF lo).1 = (showSpanF lo hi).1) ∧ ((0 : Int) = (showSpanF lo hi).2) := ⟨(by (rw [showSpan_one (by assumption) (by assumption)]; done)), (by (rw [showSpan_one (by assumption) (by assumption)]; done))⟩
   exact ⟨xG (congrArg S hE.1) (congrArg (Value.int .i64) hE.2), hb⟩
  ·intro h12
   replace h12 : lo ≠ hi := by omega
   refine zE (zA (K11 zN (zV (zA (zF (zD (K21 (zQ (.pointer (some ⟨b1, 1, none⟩))) (K22 (zZ b1 1 (.int .i32 hi)) (zM o_x1 rfl) (K22 (yA 74 [(.int .i32 hi)]) (c_points_Show hi _) ?_)))))))))
   rintro _ w13 ⟨rfl, hB14⟩
   replace hb := hb.trans (hB14.mono hs)
   replace hs := Nat.le_trans hs (hB14.size)
   refine zI (K21 (zQ (S ((showF hi).1))) (K21 (zQ (.int .i64 ((showF hi).2))) (zJ (zJ (zE (zA (zF (zD (zI (K21 (L_sadd ((showF lo).1) ([46, 46] : List UInt8) (by (simp only [List.length_append, List.length_cons, List.length_nil]; omega))) (zI (K21 (L_sadd ((showF lo).1 ++ ([46, 46] : List UInt8)) ((showF hi).1) (by (simp only [List.length_append, List.length_cons, List.length_nil]; omega))) (zJ (zJ (zE (zA (zX ?_)))))))))))))))))
   refine zO [.tmp 2, .tmp 3] [(S (((showF lo).1 ++ ([46, 46] : List UInt8)) ++ (showF hi).1)), (.int .i64 0)] rfl rfl ⟨by kernel_rfl, by kernel_rfl, trivial⟩ ?_
   have hE : ((((showF lo).1 ++ ([46, 46] : List UInt8)) ++ (showF hi).1) = (showSpanF lo hi).1) ∧ ((0 : Int) = (showSpanF lo hi).2) := ⟨(by (rw [showSpan_two (by assumption) (by assumption)]; done)), (by (rw [showSpan_two (by assumption) (by assumption)]; done))⟩
   exact ⟨xG (congrArg S hE.1) (congrArg (Value.int .i64) hE.2), hb⟩
 ·intro h16
  refine K11 (L_not false) (zE (zA (K11 zS (zF (zD (zJ (zJ (zE (zA (zX (zH ?_)))))))))))
  refine zO [.tmp 2, .tmp 3] [(S ([] : List UInt8)), (.int .i64 41)] rfl rfl ⟨by kernel_rfl, by kernel_rfl, trivial⟩ ?_
  have hE : (([] : List UInt8) = (showSpanF lo hi).1) ∧ ((41 : Int) = (showSpanF lo hi).2) := ⟨(by (rw [showSpan_bad (by assumption)]; done)), (by (rw [showSpan_bad (by assumption)]; done))⟩
  exact ⟨xG (congrArg S hE.1) (congrArg (Value.int .i64) hE.2), hb⟩
theorem c_strings_Cut2 (s : List UInt8) (sep : List UInt8) (w : World) {m_ml : Int} (hml : w.cell? ⟨1, 0, none⟩ = some (.int .i64 m_ml)) (hs : s.length ≤ 1073741824) :
  Calls Tryz.prog 94 #[(S s), (S sep)] w (Ret fun v w' => v = (.tuple #[(S ((Lib.cut s sep).1)), (S ((Lib.cut s sep).2.1)), (.bool ((Lib.cut s sep).2.2))]) ∧ Below w.heap.size w w') :=
 cut_contract Tryz.strings_Cut s sep w hml hs
theorem c_points_Span (s : List UInt8) (w : World) {m_ml : Int} (hml : w.cell? ⟨1, 0, none⟩ = some (.int .i64 m_ml)) (hs : s.length ≤ 1073741824) :
  Calls Tryz.prog 99 #[(S s)] w (Ret fun v w' => v = (.tuple #[(Value.agg #[(.int .i32 ((spanF s).1)), (.int .i32 ((spanF s).2.1))]), (.int .i64 ((spanF s).2.2))]) ∧ Below w.heap.size w w') := by
 refine K11 (enter (args := [(S s)]) Tryz.func99 rfl (by kernel_rfl : _ = 46)) ?_
 have hb := Below.refl w.heap.size w
 have hs : w.heap.size ≤ w.heap.size := Nat.le_refl _
 refine zF (zD (K21 (yW (fun b => .pointer (some ⟨b, 0, none⟩)) (.cells [(.int .i32 0), (.int .i32 0)].toArray 32 (0, 0))) ?_))
 intro b1 w2 hN3
 have g_x2 : w.heap.size ≤ b1 := by rw [hN3.num]; exact hs
 replace hb := hb.trans (hN3.below.mono hs)
 replace hs := Nat.le_trans hs (hN3.below.size)
 have o_x2 := hN3.here
 refine zJ (zE (zA (zF (zD (zI (K22 (yA 94 [(S s), (S ([46, 46] : List UInt8))]) (c_strings_Cut2 s ([46, 46] : List UInt8) _ (gcell_below hml hb) (by omega)) ?_))))))
 rintro _ w4 ⟨rfl, hB5⟩
 replace hb := hb.trans (hB5.mono hs)
 replace hs := Nat.le_trans hs (hB5.size)
 replace o_x2 := zB o_x2 hB5
 have := cut_len s ([46, 46] : List UInt8)
 refine zI (K21 (zQ (S ((Lib.cut s ([46, 46] : List UInt8)).1))) (K21 (zQ (S ((Lib.cut s ([46, 46] : List UInt8)).2.1))) (K21 (zQ (.bool ((Lib.cut s ([46, 46] : List UInt8)).2.2))) (zJ (zJ (zJ (zE (zA (zF (zD (zI (K22 (yA 132 [(S ((Lib.cut s ([46, 46] : List UInt8)).1))]) (c_points_Hex ((Lib.cut s ([46, 46] : List UInt8)).1) _ (by omega)) ?_))))))))))))
 rintro _ w7 ⟨rfl, hB8⟩
 replace hb := hb.trans (hB8.mono hs)
 replace hs := Nat.le_trans hs (hB8.size)
 replace o_x2 := zB o_x2 hB8
 refine zI (K21 (zQ (.int .i32 ((hexF ((Lib.cut s ([46, 46] : List UInt8)).1)).1))) (K21 (zQ (.int .i64 ((hexF ((Lib.cut s ([46, 46] : List UInt8)).1)).2))) (zJ (zJ (zE (zA (zF (zF (zD (zI (K22 (yD .i64 ((hexF ((Lib.cut s ([46, 46] : List UInt8)).1)).2) 0 ((hexF ((Lib.cut s ([46, 46] : List UInt8)).1)).2 ≠ 0) rfl (cmp_ne ((hexF ((Lib.cut s ([46, 46] : List UInt8)).1)).2) 0)) ?_ ?_)))))))))))
 ·intro h10
  replace h10 : (hexF ((Lib.cut s ([46, 46] : List UInt8)).1)).2 ≠ 0 := by omega
  refine zE (zA (K11 zS (zF (zD (K21 (zQ (Value.agg #[(.int .i32 0), (.int .i32 0)])) (zI (K26 (yX b1 0 [(.int .i32 0), (.int .i32 0)] [(.int .i32 0), (.int .i32 0)] [(.int .i32 0), (.int .i32 0)] 32) rfl (by kernel_rfl) o_x2 (by kernel_rfl) rfl ?_)))))))
  intro w11 hW12
  replace hb := hb.trans (hW12.below g_x2)
  replace hs := Nat.le_trans hs (Nat.le_of_eq hW12.size.symm)
  replace o_x2 := hW12.here
  refine zJ (zE (zA (zX (zH ?_))))
  refine zO [.cell 2 32, .tmp 3] [(Value.agg #[(.int .i32 0), (.int .i32 0)]), (.int .i64 ((hexF ((Lib.cut s ([46, 46] : List UInt8)).1)).2))] rfl rfl ⟨⟨⟨b1, 0, none⟩, by kernel_rfl, xN [(.int .i32 0), (.int .i32 0)] (by kernel_rfl) (by kernel_rfl) (xH o_x2)⟩, by kernel_rfl, trivial⟩ ?_
  have hE : ((Value.agg #[(.int .i32 0), (.int .i32 0)]) = (Value.agg #[(.int .i32 ((spanF s).1)), (.int .i32 ((spanF s).2.1))])) ∧ (((hexF ((Lib.cut s ([46, 46] : List UInt8)).1)).2 : Int) = (spanF s).2.2) := ⟨(by (rw [span_cut, if_pos (by omega)]; done)), (by (rw [span_cut, if_pos (by omega)]; done))⟩
  exact ⟨xG (hE.1) (congrArg (Value.int .i64) hE.2), hb⟩
 ·intro h13
  replace h13 : (hexF ((Lib.cut s ([46, 46] : List UInt8)).1)).2 = 0 := by omega
  refine zE (zA (K11 zN (zV (zA (zF (zF (zD (zI (K11 (L_not ((Lib.cut s ([46, 46] : List UInt8)).2.2)) (zE (zA ?_)))))))))))
  rcases Bool.eq_false_or_eq_true (!((Lib.cut s ([46, 46] : List UInt8)).2.2)) with hc14 | hc14
  ·skip
   refine K11 (W_ifT hc14) (zF (zD (zI (zI (K21 (zQ (Value.agg #[(.int .i32 ((hexF ((Lib.cut s ([46, 46] : List UInt8)).1)).1)), (.int .i32 ((hexF ((Lib.cut s ([46, 46] : List UInt8)).1)).1))])) (K26 (yX b1 0 [(.int .i32 ((hexF ((Lib.cut s ([46, 46] : List UInt8)).1)).1)), (.int .i32 ((hexF ((Lib.cut s ([46, 46] : List UInt8)).1)).1))] [(.int .i32 0), (.int .i32 0)] [(.int .i32 ((hexF ((Lib.cut s ([46, 46] : List UInt8)).1)).1)), (.int .i32 ((hexF ((Lib.cut s ([46, 46] : List UInt8)).1)).1))] 32) rfl (by kernel_rfl) o_x2 (by kernel_rfl) rfl ?_))))))
   intro w15 hW16
   replace hb := hb.trans (hW16.below g_x2)
   replace hs := Nat.le_trans hs (Nat.le_of_eq hW16.size.symm)
   replace o_x2 := hW16.here
   refine zJ (zE (zA (zX (zH ?_))))
   refine zO [.cell 2 32, .tmp 3] [(Value.agg #[(.int .i32 ((hexF ((Lib.cut s ([46, 46] : List UInt8)).1)).1)), (.int .i32 ((hexF ((Lib.cut s ([46, 46] : List UInt8)).1)).1))]), (.int .i64 0)] rfl rfl ⟨⟨⟨b1, 0, none⟩, by kernel_rfl, xN [(.int .i32 ((hexF ((Lib.cut s ([46, 46] : List UInt8)).1)).1)), (.int .i32 ((hexF ((Lib.cut s ([46, 46] : List UInt8)).1)).1))] (by kernel_rfl) (by kernel_rfl) (xH o_x2)⟩, by kernel_rfl, trivial⟩ ?_
   have hE : ((Value.agg #[(.int .i32 ((hexF ((Lib.cut s ([46, 46] : List UInt8)).1)).1)), (.int .i32 ((hexF ((Lib.cut s ([46, 46] : List UInt8)).1)).1))]) = (Value.agg #[(.int .i32 ((spanF s).1)), (.int .i32 ((spanF s).2.1))])) ∧ ((0 : Int) = (spanF s).2.2) := ⟨(by (rw [span_cut, if_neg (by omega), if_pos (nt (by assumption))]; done)), (by (rw [span_cut, if_neg (by omega), if_pos (nt (by assumption))]; done))⟩
   exact ⟨xG (hE.1) (congrArg (Value.int .i64) hE.2), hb⟩
  ·skip
   refine K11 (W_ifF hc14) (zV (zA (zF (zD (zI (K22 (yA 132 [(S ((Lib.cut s ([46, 46] : List UInt8)).2.1))]) (c_points_Hex ((Lib.cut s ([46, 46] : List UInt8)).2.1) _ (by omega)) ?_))))))
   rintro _ w17 ⟨rfl, hB18⟩
   replace hb := hb.trans (hB18.mono hs)
   replace hs := Nat.le_trans hs (hB18.size)
   replace o_x2 := zB o_x2 hB18
   refine zI (K21 (zQ (.int .i32 ((hexF ((Lib.cut s ([46, 46] : List UInt8)).2.1)).1))) (K21 (zQ (.int .i64 ((hexF ((Lib.cut s ([46, 46] : List UInt8)).2.1)).2))) (zJ (zJ (zE (zA (zF (zF (zD (zI (K22 (yD .i64 ((hexF ((Lib.cut s ([46, 46] : List UInt8)).2.1)).2) 0 ((hexF ((Lib.cut s ([46, 46] : List UInt8)).2.1)).2 ≠ 0) rfl (cmp_ne ((hexF ((Lib.cut s ([46, 46] : List UInt8)).2.1)).2) 0)) ?_ ?_)))))))))))
   ·intro h20
    replace h20 : (hexF ((Lib.cut s ([46, 46] : List UInt8)).2.1)).2 ≠ 0 := by omega
    refine zE (zA (K11 zS (zF (zD (K21 (zQ (Value.agg #[(.int .i32 0), (.int .i32 0)])) (zI (K26 (yX b1 0 [(.int .i32 0), (.int .i32 0)] [(.int .i32 0), (.int .i32 0)] [(.int .i32 0), (.int .i32 0)] 32) rfl (by kernel_rfl) o_x2 (by kernel_rfl) rfl ?_)))))))
    intro w21 hW22
    replace hb := hb.trans (hW22.below g_x2)
    replace hs := Nat.le_trans hs (Nat.le_of_eq hW22.size.symm)
    replace o_x2 := hW22.here
    refine zJ (zE (zA (zX (zH ?_))))
    refine zO [.cell 2 32, .tmp 3] [(Value.agg #[(.int .i32 0), (.int .i32 0)]), (.int .i64 ((hexF ((Lib.cut s ([46, 46] : List UInt8)).2.1)).2))] rfl rfl ⟨⟨⟨b1, 0, none⟩, by kernel_rfl, xN [(.int .i32 0), (.int .i32 0)] (by kernel_rfl) (by kernel_rfl) (xH o_x2)⟩, by kernel_rfl, trivial⟩ ?_
    have hE : ((Value.agg #[(.int .i32 0), (.int .i32 0)]) = (Value.agg #[(.int .i32 ((spanF s).1)), (.int .i32 ((spanF s).2.1))])) ∧ (((hexF ((Lib.cut s ([46, 46] : List UInt8)).2.1)).2 : Int) = (spanF s).2.2) := ⟨(by (rw [span_cut, if_neg (by omega), if_neg (nf (by assumption)), if_pos (by omega)]; done)), (by (rw [span_cut, if_neg (by omega), if_neg (nf (by assumption)), if_pos (by omega)]; done))⟩
    exact ⟨xG (hE.1) (congrArg (Value.int .i64) hE.2), hb⟩
   ·intro h23
    replace h23 : (hexF ((Lib.cut s ([46, 46] : List UInt8)).2.1)).2 = 0 := by omega
    refine zE (zA (K11 zN (zV (zA (zF (zF (zD (zI (zI (K22 (yD .i32 ((hexF ((Lib.cut s ([46, 46] : List UInt8)).1)).1) ((hexF ((Lib.cut s ([46, 46] : List UInt8)).2.1)).1) ((hexF ((Lib.cut s ([46, 46] : List UInt8)).2.1)).1 < (hexF ((Lib.cut s ([46, 46] : List UInt8)).1)).1) rfl (cmp_gt ((hexF ((Lib.cut s ([46, 46] : List UInt8)).1)).1) ((hexF ((Lib.cut s ([46, 46] : List UInt8)).2.1)).1))) ?_ ?_))))))))))
    ·intro h24
     replace h24 : (hexF ((Lib.cut s ([46, 46] : List UInt8)).2.1)).1 < (hexF ((Lib.cut s ([46, 46] : List UInt8)).1)).1 := by omega
     refine zE (zA (K11 zS (zF (zD (K21 (zQ (Value.agg #[(.int .i32 0), (.int .i32 0)])) (K26 (yX b1 0 [(.int .i32 0), (.int .i32 0)] [(.int .i32 0), (.int .i32 0)] [(.int .i32 0), (.int .i32 0)] 32) rfl (by kernel_rfl) o_x2 (by kernel_rfl) rfl ?_))))))
     intro w25 hW26
     replace hb := hb.trans (hW26.below g_x2)
     replace hs := Nat.le_trans hs (Nat.le_of_eq hW26.size.symm)
     replace o_x2 := hW26.here
     refine zJ (zE (zA (zX (zH ?_))))
     refine zO [.cell 2 32, .tmp 3] [(Value.agg #[(.int .i32 0), (.int .i32 0)]), (.int .i64 41)] rfl rfl ⟨⟨⟨b1, 0, none⟩, by kernel_rfl, xN [(.int .i32 0), (.int .i32 0)] (by kernel_rfl) (by kernel_rfl) (xH o_x2)⟩, by kernel_rfl, trivial⟩ ?_
     have hE : ((Value.agg #[(.int .i32 0), (.int .i32 0)]) = (Value.agg #[(.int .i32 ((spanF s).1)), (.int .i32 ((spanF s).2.1))])) ∧ ((41 : Int) = (spanF s).2.2) := ⟨(by (rw [span_cut, if_neg (by omega), if_neg (nf (by assumption)), if_neg (by omega), if_pos (by omega)]; done)), (by (rw [span_cut, if_neg (by omega), if_neg (nf (by assumption)), if_neg (by omega), if_pos (by omega)]; done))⟩
     exact ⟨xG (hE.1) (congrArg (Value.int .i64) hE.2), hb⟩
    ·intro h27
     replace h27 : (hexF ((Lib.cut s ([46, 46] : List UInt8)).1)).1 ≤ (hexF ((Lib.cut s ([46, 46] : List UInt8)).2.1)).1 := by omega
     refine zE (zA (K11 zN (zV (zA (zF (zD (zI (zI (K21 (zQ (Value.agg #[(.int .i32 ((hexF ((Lib.cut s ([46, 46] : List UInt8)).1)).1)), (.int .i32 ((hexF ((Lib.cut s ([46, 46] : List UInt8)).2.1)).1))])) (K26 (yX b1 0 [(.int .i32 ((hexF ((Lib.cut s ([46, 46] : List UInt8)).1)).1)), (.int .i32 ((hexF ((Lib.cut s ([46, 46] : List UInt8)).2.1)).1))] [(.int .i32 0), (.int .i32 0)] [(.int .i32 ((hexF ((Lib.cut s ([46, 46] : List UInt8)).1)).1)), (.int .i32 ((hexF ((Lib.cut s ([46, 46] : List UInt8)).2.1)).1))] 32) rfl (by kernel_rfl) o_x2 (by kernel_rfl) rfl ?_))))))))))
     intro w28 hW29
     replace hb := hb.trans (hW29.below g_x2)
     replace hs := Nat.le_trans hs (Nat.le_of_eq hW29.size.symm)
     replace o_x2 := hW29.here
     refine zJ (zE (zA (zX ?_)))
     refine zO [.cell 2 32, .tmp 3] [(Value.agg #[(.int .i32 ((hexF ((Lib.cut s ([46, 46] : List UInt8)).1)).1)), (.int .i32 ((hexF ((Lib.cut s ([46, 46] : List UInt8)).2.1)).1))]), (.int .i64 0)] rfl rfl ⟨⟨⟨b1, 0, none⟩, by kernel_rfl, xN [(.int .i32 ((hexF ((Lib.cut s ([46, 46] : List UInt8)).1)).1)), (.int .i32 ((hexF ((Lib.cut s ([46, 46] : List UInt8)).2.1)).1))] (by kernel_rfl) (by kernel_rfl) (xH o_x2)⟩, by kernel_rfl, trivial⟩ ?_
     have hE : ((Value.agg #[(.int .i32 ((hexF ((Lib.cut s ([46, 46] : List UInt8)).1)).1)), (.int .i32 ((hexF ((Lib.cut s ([46, 46] : List UInt8)).2.1)).1))]) = (Value.agg #[(.int .i32 ((spanF s).1)), (.int .i32 ((spanF s).2.1))])) ∧ ((0 : Int) = (spanF s).2.2) := ⟨(by (rw [span_cut, if_neg (by omega), if_neg (nf (by assumption)), if_neg (by omega), if_neg (by omega)]; done)), (by (rw [span_cut, if_neg (by omega), if_neg (nf (by assumption)), if_neg (by omega), if_neg (by omega)]; done))⟩
     exact ⟨xG (hE.1) (congrArg (Value.int .i64) hE.2), hb⟩
end Go.Proofs.YtkclikfejmeblaaGreatDoor
end

/- === FKad === -/
section
/- FKad: the cells of a row's block as they lie: slices of the block, copies into it. My own text. -/
set_option linter.unusedVariables false
namespace Go.FK
open Go Go.RowKit
def AtE {α : Type} (enc : α → List Value) (k : Nat) (cur : List Value) (a : Nat) (ys : List α) : Prop := (cur.drop (a * k)).take (ys.length * k) = ys.flatMap enc
def putAt (k : Nat) (cur : List Value) (a : Nat) (cs : List Value) : List Value := cur.take (a * k) ++ cs ++ cur.drop (a * k + cs.length)
structure Raw (w : World) (B E k g cap : Nat) (cur : List Value) : Prop where
  base : B ≤ g
  here : w.heap[g]? = some (.cells cur.toArray E (0, 0))
  capm : cap ≤ maxLen
  size : cur.length = cap * k
theorem putAt_len {k a : Nat} {cur cs : List Value} (h : a * k + cs.length ≤ cur.length) : (putAt k cur a cs).length = cur.length := by
  unfold putAt; rw [List.length_append, List.length_append, List.length_take, List.length_drop]; omega
section
variable {α : Type} {enc : α → List Value} {k : Nat} {cur cs : List Value}
theorem flat_len' (hk : ∀ x, (enc x).length = k) (ys : List α) : (ys.flatMap enc).length = ys.length * k := flat_len enc k hk ys
theorem at_put {a : Nat} {ys : List α} (hk : ∀ x, (enc x).length = k) (h : a * k + ys.length * k ≤ cur.length) : AtE enc k (putAt k cur a (ys.flatMap enc)) a ys := by
  have h2 := flat_len' hk ys
  have h3 : (cur.take (a * k)).length = a * k := by rw [List.length_take]; omega
  unfold AtE putAt
  rw [List.append_assoc, List.drop_append_of_le_length (by omega), List.drop_of_length_le (l := cur.take (a * k)) (by omega), List.nil_append, List.take_append_of_le_length (by omega), ← h2, List.take_length]
theorem at_lo {a b : Nat} {zs : List α} (h : AtE enc k cur b zs) (hb : b + zs.length ≤ a) (hl : a * k ≤ cur.length) : AtE enc k (putAt k cur a cs) b zs := by
  have h1 : b * k + zs.length * k ≤ a * k := by rw [← Nat.add_mul]; exact Nat.mul_le_mul_right _ hb
  have h3 : (cur.take (a * k)).length = a * k := by rw [List.length_take]; omega
  unfold AtE at h ⊢
  unfold putAt
  rw [List.append_assoc, List.drop_append_of_le_length (by omega), List.take_append_of_le_length (by rw [List.length_drop]; omega), List.drop_take, List.take_take, Nat.min_eq_left (by omega)]
  exact h
theorem at_hi {a b : Nat} {zs ys : List α} (hk : ∀ x, (enc x).length = k) (h : AtE enc k cur b zs) (hb : a + ys.length ≤ b) (hl : a * k + ys.length * k ≤ cur.length) : AtE enc k (putAt k cur a (ys.flatMap enc)) b zs := by
  have h1 : a * k + ys.length * k ≤ b * k := by rw [← Nat.add_mul]; exact Nat.mul_le_mul_right _ hb
  have h2 := flat_len' hk ys
  have h3 : (cur.take (a * k)).length = a * k := by rw [List.length_take]; omega
  unfold AtE at h ⊢
  unfold putAt
  rw [List.drop_append, List.drop_of_length_le (by rw [List.length_append]; omega), List.nil_append, List.drop_drop, List.length_append, h3, h2]
  rw [show a * k + ys.length * k + (b * k - (a * k + ys.length * k)) = b * k by omega]
  exact h
theorem at_split {a : Nat} {xs ys : List α} (hk : ∀ x, (enc x).length = k) (h : AtE enc k cur a (xs ++ ys)) : AtE enc k cur a xs ∧ AtE enc k cur (a + xs.length) ys := by
  have h1 := flat_len' hk xs
  have h2 := flat_len' hk ys
  unfold AtE at h ⊢
  rw [List.length_append, Nat.add_mul, List.flatMap_append] at h
  constructor
  · have := congrArg (List.take (xs.length * k)) h
    rw [List.take_take, Nat.min_eq_left (by omega), List.take_append_of_le_length (by omega), ← h1, List.take_length] at this
    rw [← h1]; exact this
  · have := congrArg (List.drop (xs.length * k)) h
    rw [List.drop_take, List.drop_drop, List.drop_append_of_le_length (by omega), List.drop_of_length_le (l := xs.flatMap enc) (by omega), List.nil_append, Nat.add_sub_cancel_left] at this
    rw [Nat.add_mul]; exact this
theorem at_join {a : Nat} {xs ys : List α} (hk : ∀ x, (enc x).length = k) (h1 : AtE enc k cur a xs) (h2 : AtE enc k cur (a + xs.length) ys) : AtE enc k cur a (xs ++ ys) := by
  have h3 := flat_len' hk xs
  unfold AtE at h1 h2 ⊢
  rw [List.length_append, Nat.add_mul, List.flatMap_append, ← h1, ← h2, Nat.add_mul, ← List.drop_drop, List.take_add]
theorem at_mid {a : Nat} {xs : List α} (hk : ∀ x, (enc x).length = k) (h : AtE enc k cur a xs) (i : Nat) (hi : i ≤ xs.length) : AtE enc k cur a (xs.take i) ∧ AtE enc k cur (a + i) (xs.drop i) := by
  have h2 : AtE enc k cur a (xs.take i ++ xs.drop i) := by rw [List.take_append_drop]; exact h
  have h3 := at_split hk h2
  rwa [List.length_take, Nat.min_eq_left hi] at h3
theorem at_cells {a : Nat} {ys : List α} {w : World} {B E g cap : Nat} (hk : ∀ x, (enc x).length = k) (hr : Raw w B E k g cap cur) (h : AtE enc k cur a ys) : ∀ j u, (ys.flatMap enc)[j]? = some u → w.cell? ((⟨g, a * k, none⟩ : Addr).add j) = some u := by
  intro j u hu
  have hj : j < ys.length * k := by
    have := (List.getElem?_eq_some_iff.1 hu).1
    rwa [flat_len' hk] at this
  rw [add_lit]
  refine zM hr.here ?_
  unfold AtE at h
  rw [← h, List.getElem?_take, if_pos hj, List.getElem?_drop] at hu
  simpa using hu
end
theorem Row.raw {α : Type} {enc : α → List Value} {w : World} {B E k : Nat} {v : Value} {xs : List α} (h : Row w B E k enc v xs) (hk : ∀ x, (enc x).length = k) (hn : 0 < xs.length) :
    ∃ g cap cur, v = .slice (some ⟨g, 0, none⟩) xs.length cap ∧ xs.length ≤ cap ∧ Raw w B E k g cap cur ∧ AtE enc k cur 0 xs := by
  rcases h.2 with ⟨_, h3⟩ | ⟨g, cap, cur, hv, hg, hh, hnc, hcm, hcs, ht⟩
  · omega
  · refine ⟨g, cap, cur.toList, hv, hnc, ⟨hg, by simpa using hh, hcm, by simpa using hcs⟩, ?_⟩
    unfold AtE
    rw [Nat.zero_mul, List.drop_zero]; exact ht
theorem Raw.row {α : Type} {enc : α → List Value} {w : World} {B E k g cap : Nat} {cur : List Value} {zs : List α} (h : Raw w B E k g cap cur) (hk : ∀ x, (enc x).length = k) {N : Nat} (hN : N = zs.length) (hl : zs.length ≤ cap) (hz : AtE enc k cur 0 zs) :
    Row w B E k enc (.slice (some ⟨g, 0, none⟩) N cap) zs := by
  subst hN
  refine ⟨flat_len' hk zs, .inr ⟨g, cap, cur.toArray, rfl, h.base, h.here, hl, h.capm, by simpa using h.size, ?_⟩⟩
  unfold AtE at hz
  rw [Nat.zero_mul, List.drop_zero] at hz; exact hz
theorem Raw.grown {w w' : World} {B E k g cap : Nat} {cur : List Value} {row : Option Nat} (h : Raw w B E k g cap cur) (hg : w.grownBy w' row) (hne : row ≠ some g) : Raw w' B E k g cap cur :=
  ⟨h.base, (hg.block g (yR h.here) (fun e => hne e.symm)).trans h.here, h.capm, h.size⟩
theorem xO {α : Type} {enc : α → List Value} {k : Nat} {cur : List Value} {a b : Nat} {ys : List α} (h : AtE enc k cur a ys) (e : a = b) : AtE enc k cur b ys := e ▸ h
theorem at_rd {α : Type} {enc : α → List Value} {w : World} {B E k g cap a c : Nat} {cur : List Value} {ys : List α} (hr : Raw w B E k g cap cur) (hk : ∀ x, (enc x).length = k) (h : AtE enc k cur a ys) {N : Nat} (hN : N = ys.length) : Rd w enc (.slice (some ⟨g, a * k, none⟩) N c) ys := by
  subst hN
  refine ⟨_, c, rfl, .inr ⟨g, a * k, rfl, fun j u hu => ?_⟩⟩
  have := at_cells hk hr h j u hu
  rwa [add_lit] at this
theorem Row.mono0 {α : Type} {w : World} {B E k : Nat} {enc : α → List Value} {v : Value} {xs : List α} (h : Row w B E k enc v xs) : Row w 0 E k enc v xs := by
  refine ⟨h.1, ?_⟩
  rcases h.2 with h2 | ⟨g, cap, cur, hv, hg, r⟩
  · exact .inl h2
  · exact .inr ⟨g, cap, cur, hv, Nat.zero_le _, r⟩
theorem samecap_val {α : Type} {w : World} {B E k g N cap : Nat} {enc : α → List Value} {v p : Value} {ys : List α} (h : SameCap v p) (hv : v = .slice (some ⟨g, 0, none⟩) N cap) (hp : Row w B E k enc p ys) : (∃ a, p = .slice a ys.length cap) ∧ ys.length ≤ cap := by
  subst hv
  rcases h with ⟨h1, _⟩ | ⟨g1, n1, n2, c1, h1, rfl⟩
  · cases h1
  · cases h1
    rcases hp.2 with ⟨h2, _⟩ | ⟨g2, cap2, cur, h2, _, _, hnc, _⟩
    · cases h2
    · cases h2
      exact ⟨⟨_, rfl⟩, hnc⟩
theorem yO {v : Value} {g N cap : Nat} (hv : v = .slice (some ⟨g, 0, none⟩) N cap) : Value.ownBlock v = some g := by rw [hv]; rfl
theorem Raw.shape {w : World} {B E k g cap : Nat} {cur : List Value} (h : Raw w B E k g cap cur) : w.shape? g = some (E, cur.length) := by unfold World.shape?; rw [h.here]; simp
theorem Raw.frozen {w : World} {B E k g cap : Nat} {cur : List Value} (h : Raw w B E k g cap cur) (j : Nat) : w.frozen? ⟨g, j, none⟩ = false := by unfold World.frozen?; rw [h.here]; simp
theorem grow_ne {w : World} {B E k g cap : Nat} {cur : List Value} {v : Value} (h : Raw w B E k g cap cur) (hn : v.ownBlock = some w.heap.size) : v.ownBlock ≠ some g := by
  rw [hn]; intro e
  have := yR h.here
  have e2 := Option.some.inj e
  omega
theorem Raw.le {w : World} {B E k g cap a : Nat} {cur : List Value} (h : Raw w B E k g cap cur) (ha : a ≤ cap) : a * k ≤ cur.length := by rw [h.size]; exact Nat.mul_le_mul_right _ ha
theorem Raw.le2 {w : World} {B E k g cap a c : Nat} {cur : List Value} (h : Raw w B E k g cap cur) (ha : a + c ≤ cap) : a * k + c * k ≤ cur.length := by rw [h.size, ← Nat.add_mul]; exact Nat.mul_le_mul_right _ ha
theorem zer_new {α : Type} {w : World} {B E k N : Nat} {enc : α → List Value} {v : Value} {xs : List α} (h : Row w B E k enc v xs) (how : v.ownBlock = (Value.slice none 0 0).ownBlock ∨ v.ownBlock = some N) (hn : 0 < xs.length) : v.ownBlock = some N := by
  rcases how with h1 | h1
  · rcases h.2 with ⟨rfl, h2⟩ | ⟨g, cap, cur, rfl, _⟩
    · omega
    · cases h1
  · exact h1
theorem rne_of {v u : Value} {g b n m c e : Nat} (hv : v = .slice (some ⟨g, 0, none⟩) n c) (hu : u = .slice (some ⟨b, 0, none⟩) m e) (h : v.ownBlock = none ∨ v.ownBlock ≠ u.ownBlock) : g ≠ b := by
  subst hv; subst hu
  rintro rfl
  rcases h with h | h
  · cases h
  · exact h rfl
theorem grown_w {w w' : World} {g : Nat} {o : Obj} (h : Wrote w w' g o) : w.grownBy w' (some g) := ⟨h.os, h.tape, h.output, Nat.le_of_eq h.size.symm, fun k _ hk => h.other k (fun e => hk (by rw [e]))⟩
section ops
variable {r : Option Nat} {P : Program} {n : Nat} {Q : Post} {s : Fm} {w : World} {ops : Array Oper} {rest : List Oper}
variable {d : Option Tmp} {ty : TypeId} {pos : String} {af : Array Edge}
theorem L_cap {ats : Array TypeId} {X : Operand} (t E c : Nat) (v : Value) (hat : ats[0]? = some t) (hu : P.underlying t = some (.slice E)) (hv : ∃ a m, v = .slice a m c) (hx : s.ev n X = v)
    (h : L r P n ops Q rest (s.put d (.int .i64 (c : Nat))) w) : L r P n ops Q (⟨d, .call ⟨.builtin .cap, #[X], ats⟩, ty, pos, af, none⟩ :: rest) s w := by
  obtain ⟨a, m, rfl⟩ := hv
  refine xR _ w (by simp) ?_ h
  simp [execOp, resolve, invoke, builtin, Builtin.cap_, hat, hx, run_underlying hu, goInt, Sem.run_pure, Sem.run_bind]
theorem L_slTot {X : Operand} {hi : Operand} {T E k bytes : Nat} (he : Elem P T E k bytes) (v : Value) (g N c tot : Nat) (hv : v = .slice (some ⟨g, 0, none⟩) N c) (hX : s.ev n X = v) (hhi : ∃ kk, s.ev n hi = .int kk tot) (h2 : tot ≤ c)
    (h : L r P n ops Q rest (s.put d (.slice (some ⟨g, 0, none⟩) tot c)) w) : L r P n ops Q (⟨d, .slice T X none (some hi) none, ty, pos, af, none⟩ :: rest) s w := by
  subst hv
  obtain ⟨kk, hhi⟩ := hhi
  have hb := sliceB (P := P) (w := w) (len := N) (cap := c) (lo := none) (hi := some (.int kk (tot : Nat))) 0 tot rfl ⟨kk, rfl⟩ (Nat.zero_le _) h2 true
  refine xR _ w (by simp) ?_ h
  have e : (if c = 0 then some (⟨g, 0, none⟩ : Addr) else some ((⟨g, 0, none⟩ : Addr).add (0 * k))) = some ⟨g, 0, none⟩ := by
    split
    · rfl
    · rw [add_lit, Nat.zero_mul]
  simp only [execOp, hX, hhi, Instr.sliceAt, Instr.slice, Sem.run_bind, Sem.run_pure, Result.andThen_ok, run_underlying he.ht, hb, run_size he, Option.map_none, Option.map_some, e, Nat.sub_zero]
theorem L_slRaw {X : Operand} {lo hi : Option Operand} {T E k bytes : Nat} (he : Elem P T E k bytes) (v : Value) (g o N c l hh : Nat) (hv : v = .slice (some ⟨g, o * k, none⟩) N c) (hX : s.ev n X = v)
    (hlo : match lo with | none => l = 0 | some x => ∃ kk, s.ev n x = .int kk l) (hhi : match hi with | none => hh = N | some x => ∃ kk, s.ev n x = .int kk hh) (h1 : l ≤ hh) (h2 : hh ≤ c) (h3 : l < c)
    (h : L r P n ops Q rest (s.put d (.slice (some ⟨g, (o + l) * k, none⟩) (hh - l) (c - l))) w) : L r P n ops Q (⟨d, .slice T X lo hi none, ty, pos, af, none⟩ :: rest) s w := by
  subst hv
  have hb := sliceB (P := P) (w := w) (len := N) (cap := c) (lo := lo.map (s.ev n)) (hi := hi.map (s.ev n)) l hh (by cases lo <;> exact hlo) (by cases hi <;> exact hhi) h1 h2 true
  refine xR _ w (by simp) ?_ h
  have e : (if c = l then some (⟨g, o * k, none⟩ : Addr) else some ((⟨g, o * k, none⟩ : Addr).add (l * k))) = some ⟨g, (o + l) * k, none⟩ := by
    rw [if_neg (by omega), add_lit, Nat.add_mul]
  simp only [execOp, hX, Instr.sliceAt, Instr.slice, Sem.run_bind, Sem.run_pure, Result.andThen_ok, run_underlying he.ht, hb, run_size he, Option.map_none, Option.map_some, e]
theorem run_copyCells (T elem ty : TypeId) {k : Nat} (hu : P.underlying T = some (.slice elem)) (hz : ∀ w, (sizeOf elem).run P w = .ok k w) (g a p c1 : Nat) (A : Addr) (q c2 : Nat) (cur cs : List Value) (E : TypeId)
    (hg : w.heap[g]? = some (.cells cur.toArray E (0, 0))) (c : Nat) (hc : c = Nat.min q p) (hn : cs.length = c * k) (hsrc : ∀ j v, cs[j]? = some v → w.cell? (A.add j) = some v) (hfit : a * k + cs.length ≤ cur.length) (h1 : ∀ v ∈ cs, v.oneCell' = true) :
    (Builtin.copy_ #[T, T] ty #[.slice (some ⟨g, a * k, none⟩) p c1, .slice (some A) q c2]).run P w = .ok (goInt c) (w.setRow g (putAt k cur a cs).toArray) := by
  have hl := run_loadCells_list (P := P) w A cs hsrc
  have hst := run_storeCells_at P g (a * k) E cs 0 cur.toArray w hg (by simpa using hfit) h1
  rw [hn] at hl
  simp only [Nat.add_zero] at hst
  simp [Builtin.copy_, run_underlying hu, Builtin.lenOf, Builtin.firstCells, hz, ← hc, hl, hst, putAt]
theorem wrote_set {g : Nat} {cur : Array Value} {E : TypeId} {x : Array Value} (hg : w.heap[g]? = some (.cells cur E (0, 0))) : Wrote w (w.setRow g x) g (.cells x E (0, 0)) :=
  ⟨rfl, rfl, rfl, by simp [World.setRow], setRow_heap w g cur _ E (0, 0) hg, fun k' hk' => by simp only [World.setRow, Array.getElem?_modify]; rw [if_neg (fun e => hk' e.symm)]⟩
theorem Raw.put {B E k g cap a : Nat} {cur cs : List Value} (h : Raw w B E k g cap cur) (hf : a * k + cs.length ≤ cur.length) : Raw (w.setRow g (putAt k cur a cs).toArray) B E k g cap (putAt k cur a cs) :=
  ⟨h.base, setRow_heap w g _ _ E (0, 0) h.here, h.capm, by rw [putAt_len hf]; exact h.size⟩
theorem L_copyRd {α : Type} {enc : α → List Value} {X Y : Operand} {T E k bytes B g cap a p c1 : Nat} {cur : List Value} (he : Elem P T E k bytes) (vy : Value) (ys : List α) (hraw : Raw w B E k g cap cur) (hrd : Rd w enc vy ys) (hk : ∀ x, (enc x).length = k) (h1 : ∀ x, (enc x).all (·.oneCell') = true)
    (hX : s.ev n X = .slice (some ⟨g, a * k, none⟩) p c1) (hY : s.ev n Y = vy) (hq : ys.length ≤ p) (hfit : a + ys.length ≤ cap)
    (h : ∀ w', Raw w' B E k g cap (putAt k cur a (ys.flatMap enc)) → w.grownBy w' (some g) → L r P n ops Q rest (s.put d (.int .i64 (ys.length : Nat))) w') :
    L r P n ops Q (⟨d, .call ⟨.builtin .copy, #[X, Y], #[T, T]⟩, ty, pos, af, none⟩ :: rest) s w := by
  have hfl := flat_len' hk ys
  have hfit2 : a * k + (ys.flatMap enc).length ≤ cur.length := by rw [hfl, hraw.size, ← Nat.add_mul]; exact Nat.mul_le_mul_right _ hfit
  obtain ⟨A, c2, rfl, hq2⟩ := hrd
  have fin : ∀ w', (Builtin.copy_ #[T, T] ty #[.slice (some ⟨g, a * k, none⟩) p c1, .slice A ys.length c2]).run P w = .ok (goInt ys.length) w' → Raw w' B E k g cap (putAt k cur a (ys.flatMap enc)) → w.grownBy w' (some g) →
      L r P n ops Q (⟨d, .call ⟨.builtin .copy, #[X, Y], #[T, T]⟩, ty, pos, af, none⟩ :: rest) s w := fun w' hrun hr hg => by
    refine xR (goInt ys.length) w' (by simp) ?_ (h w' hr hg)
    simp only [execOp, resolve, invoke, builtin, Sem.run_bind, Sem.run_pure, Result.andThen_ok, List.map_toArray, List.map_cons, List.map_nil, hX, hY, hrun]
  rcases hq2 with h0 | ⟨gy, off, rfl, hc⟩
  · obtain rfl : ys = [] := List.eq_nil_of_length_eq_zero h0
    refine fin w ?_ ?_ ⟨rfl, rfl, rfl, Nat.le_refl _, fun _ _ _ => rfl⟩
    · cases A with
      | none => simp [Builtin.copy_, run_underlying he.ht, Builtin.lenOf, Builtin.firstCells, run_size he, storeCells]
      | some A => simp [Builtin.copy_, run_underlying he.ht, Builtin.lenOf, Builtin.firstCells, run_size he, loadCells, loadCellsFrom, storeCells]
    · have e : putAt k cur a (([] : List α).flatMap enc) = cur := by simp [putAt]
      rw [e]; exact hraw
  · refine fin _ (run_copyCells T E ty he.ht (fun _ => run_size he) g a p c1 ⟨gy, off, none⟩ ys.length c2 cur _ E hraw.here ys.length (by show _ = min _ _; omega) hfl (fun j u hu => by rw [add_lit]; exact hc j u hu) hfit2 (enc_flat_one enc h1 ys)) (hraw.put hfit2) (grown_w (wrote_set hraw.here))
theorem L_copySelf {α : Type} {enc : α → List Value} {X Y : Operand} {T E k bytes B g cap a p c1 b q c2 : Nat} {cur : List Value} (he : Elem P T E k bytes) (ys : List α) (hraw : Raw w B E k g cap cur) (hat : AtE enc k cur b ys) (hk : ∀ x, (enc x).length = k) (h1 : ∀ x, (enc x).all (·.oneCell') = true)
    (hX : s.ev n X = .slice (some ⟨g, a * k, none⟩) p c1) (hY : s.ev n Y = .slice (some ⟨g, b * k, none⟩) q c2) (hc : ys.length = min q p) (hfit : a + ys.length ≤ cap)
    (h : ∀ w', Raw w' B E k g cap (putAt k cur a (ys.flatMap enc)) → w.grownBy w' (some g) → L r P n ops Q rest (s.put d (.int .i64 (ys.length : Nat))) w') :
    L r P n ops Q (⟨d, .call ⟨.builtin .copy, #[X, Y], #[T, T]⟩, ty, pos, af, none⟩ :: rest) s w := by
  have hfl := flat_len' hk ys
  have hfit2 : a * k + (ys.flatMap enc).length ≤ cur.length := by rw [hfl, hraw.size, ← Nat.add_mul]; exact Nat.mul_le_mul_right _ hfit
  have hrun := run_copyCells (w := w) T E ty he.ht (fun _ => run_size he) g a p c1 ⟨g, b * k, none⟩ q c2 cur _ E hraw.here ys.length hc hfl (at_cells hk hraw hat) hfit2 (enc_flat_one enc h1 ys)
  refine xR (goInt ys.length) _ (by simp) ?_ (h _ (hraw.put hfit2) (grown_w (wrote_set hraw.here)))
  simp only [execOp, resolve, invoke, builtin, Sem.run_bind, Sem.run_pure, Result.andThen_ok, List.map_toArray, List.map_cons, List.map_nil, hX, hY, hrun]
theorem zero_flat {α : Type} {enc : α → List Value} {k : Nat} (hk0 : 0 < k) (z0 : α) (zs : Array Value) (hz : zs.toList = enc z0) (hk : (enc z0).length = k) : ∀ c : Nat, (Builtin.zeroCells zs c).toList = (List.replicate c z0).flatMap enc := by
  have hsz : zs.size = k := by rw [← Array.length_toList, hz, hk]
  intro c
  induction c with
  | zero => simp [Builtin.zeroCells]
  | succ c ih =>
    rw [List.replicate_succ', List.flatMap_append, ← ih]
    unfold Builtin.zeroCells
    simp only [Array.toList_map, Array.toList_range, hsz]
    rw [show (c + 1) * k = c * k + k by rw [Nat.succ_mul], List.range_add, List.map_append, List.map_map]
    congr 1
    apply List.ext_getElem?
    intro j
    simp only [List.getElem?_map, List.flatMap_cons, List.flatMap_nil, List.append_nil]
    by_cases hj : j < k
    · rw [List.getElem?_range hj]
      simp only [Option.map_some, Function.comp]
      rw [Nat.mul_comm c k, Nat.mul_add_mod, Nat.mod_eq_of_lt hj, getElem!_pos zs _ (by omega), ← hz]
      simp [hsz, hj]
    · rw [List.getElem?_eq_none (by simp; omega), List.getElem?_eq_none (by omega)]; rfl
theorem L_appZeros {α : Type} {enc : α → List Value} {A X : Operand} {T tn E k bytes : Nat} {kn kq : IntKind} (he : Elem P T E k bytes) (htn : P.underlying tn = some (.int kn)) (z0 : α) (hz0 : ((P.info? E).bind (·.zero)).map (·.cells.toList) = some (enc z0)) (B : Nat) (v : Value) (xs : List α) (c cap : Nat)
    (hB : B ≤ w.heap.size) (hrow : Row w B E k enc v xs) (hk : ∀ x, (enc x).length = k) (hv : ∃ a, v = .slice a xs.length cap) (hc : 0 < c) (hg : cap < xs.length + c) (hm : (xs.length + c) * bytes ≤ 140737488355328) (hcap : xs.length ≤ cap) (hby : Nat.blt 0 bytes = true)
    (hA : s.ev n A = v) (hX : s.ev n X = .int kq c)
    (h : ∀ v' w', Row w' B E k enc v' (xs ++ List.replicate c z0) → w.grownBy w' (Value.slice none 0 0).ownBlock → (v'.ownBlock = (Value.slice none 0 0).ownBlock ∨ v'.ownBlock = some w.heap.size) → L r P n ops Q rest (s.put d v') w') :
    L r P n ops Q (⟨d, .call ⟨.builtin .append, #[A, X], #[T, tn]⟩, ty, pos, af, none⟩ :: rest) s w := by
  obtain ⟨i, hq, hks, hbys, z, hzz, hzs, hzc⟩ : ∃ i, P.info? E = some i ∧ i.size = k ∧ i.bytes = bytes ∧ ∃ z, i.zero = some z ∧ z.cells.size = k ∧ z.cells.toList = enc z0 := by
    have h := he.hi
    cases hq : P.info? E with
    | none => rw [hq] at h; cases h
    | some i =>
      rw [hq] at h hz0
      simp only [Option.map_some, Option.some.injEq, Prod.mk.injEq] at h
      obtain ⟨h1, h2, h3⟩ := h
      cases hz : i.zero with
      | none => rw [hz] at h1; cases h1
      | some z =>
        rw [hz] at h1
        simp only [Option.bind_some, hz, Option.map_some, Option.some.injEq] at hz0
        exact ⟨i, rfl, h2, h3, z, hz, by simpa using h1, hz0⟩
  have hkp : 0 < k := by have := he.hk; simpa using this
  have hbp : 0 < bytes := by simpa using hby
  obtain ⟨a, rfl⟩ := hv
  have hN : (xs.length + c) * 1 ≤ (xs.length + c) * bytes := Nat.mul_le_mul_left _ hbp
  have hcells : (Builtin.firstCells k xs.length (.slice a xs.length cap)).run P w.drew = .ok (xs.flatMap enc).toArray w.drew := by
    rcases hrow.2 with ⟨h1, h3⟩ | ⟨g, cap', cur, h1, hg', hh, hnc, hcm, hcs, ht⟩
    · injection h1 with e1 e2 e3
      subst e1
      obtain rfl : xs = [] := List.eq_nil_of_length_eq_zero h3
      simp [Builtin.firstCells, Sem.run_pure]
    · injection h1 with e1 e2 e3
      subst e1; subst e3
      have hsrc : ∀ j u, (xs.flatMap enc)[j]? = some u → w.drew.cell? ((⟨g, 0, none⟩ : Addr).add j) = some u := fun j u hu => hrow.cells (g := g) rfl j u hu
      have := run_loadCells_list (P := P) w.drew ⟨g, 0, none⟩ (xs.flatMap enc) hsrc
      rw [flat_len' hk] at this
      exact this
  have hgc := grownCap_ge w (xs.length + c) cap E
  have hgm := grownCap_le_maxLen w (xs.length + c) cap E (by unfold maxLen; omega)
  have hrun := Lib.run_append_grow_zeros (P := P) w T tn ty E i z kq kn he.ht htn hq hzz a xs.length cap (xs.flatMap enc) (by rw [hks]; exact hcells) c hc (by omega) hg (by omega)
    (by rw [hbys]; have : c * bytes ≤ (xs.length + c) * bytes := Nat.mul_le_mul_right _ (by omega); omega) (growslice_fits (by omega) (by rw [hbys]; exact hm))
  refine xR _ _ (by simp) ?_ (h (.slice (some ⟨w.heap.size, 0, none⟩) (xs.length + c) (grownCap w (xs.length + c) cap E)) (w.drew.alloc (.cells ((xs.flatMap enc).toArray ++ Builtin.zeroCells z.cells c ++ Builtin.zeroCells z.cells (grownCap w (xs.length + c) cap E - (xs.length + c))) E)) ?_ ⟨rfl, rfl, rfl, by simp, fun k hk _ => Below.heap_alloc w.drew _ k hk⟩ (.inr rfl))
  · simp only [execOp, resolve, invoke, builtin, Sem.run_bind, Sem.run_pure, Result.andThen_ok, List.map_toArray, List.map_cons, List.map_nil, hA, hX, hrun]
  · have hfl := flat_len' hk xs
    refine ⟨by rw [flat_len' hk], .inr ⟨w.heap.size, _, _, by simp, hB, heap_alloc_new w.drew _, by simpa using hgc, hgm, ?_, ?_⟩⟩
    · simp only [Array.size_append, List.size_toArray, size_zeroCells, hzs, hfl, ← Nat.add_mul]
      congr 1
      omega
    · have e : (Builtin.zeroCells z.cells c).toList = (List.replicate c z0).flatMap enc := zero_flat hkp z0 z.cells hzc (hk z0) c
      simp only [Array.toList_append, e]
      rw [← List.flatMap_append, ← flat_len' hk (xs ++ List.replicate c z0), List.take_left]
theorem L_clearRaw {α : Type} {enc : α → List Value} {X : Operand} {T E k bytes B g cap m lo : Nat} {cur : List Value} (he : Elem P T E k bytes) (v tail : Value) (hv : v = .slice (some ⟨g, 0, none⟩) m cap) (hT : TailOf k m lo v tail) (hraw : Raw w B E k g cap cur) (hlo : lo ≤ m) (hmc : m ≤ cap)
    (hz1 : ∀ z, (P.info? E).bind (·.zero) = some z → ∀ u ∈ z.cells.toList, u.oneCell' = true) (hX : s.ev n X = tail)
    (h : ∀ w' cur', Raw w' B E k g cap cur' → (∀ (a : Nat) (zs : List α), a + zs.length ≤ lo → AtE enc k cur a zs → AtE enc k cur' a zs) → w.grownBy w' (some g) → L r P n ops Q rest (s.put d (.tuple #[])) w') :
    L r P n ops Q (⟨d, .call ⟨.builtin .clear, #[X], #[T]⟩, ty, pos, af, none⟩ :: rest) s w := by
  obtain ⟨i, hq, hks, z, hzz, hzs⟩ : ∃ i, P.info? E = some i ∧ i.size = k ∧ ∃ z, i.zero = some z ∧ z.cells.size = k := by
    have h := he.hi
    cases hq : P.info? E with
    | none => rw [hq] at h; cases h
    | some i =>
      rw [hq] at h
      simp only [Option.map_some, Option.some.injEq, Prod.mk.injEq] at h
      obtain ⟨h1, h2, h3⟩ := h
      cases hz : i.zero with
      | none => rw [hz] at h1; cases h1
      | some z => rw [hz] at h1; exact ⟨i, rfl, h2, z, hz, by simpa using h1⟩
  have hkp : 0 < k := by have := he.hk; simpa using this
  have fin : ∀ w', (Builtin.clear_ #[T] ty #[tail]).run P w = .ok (.tuple #[]) w' → ∀ cur', Raw w' B E k g cap cur' → (∀ (a : Nat) (zs : List α), a + zs.length ≤ lo → AtE enc k cur a zs → AtE enc k cur' a zs) → w.grownBy w' (some g) →
      L r P n ops Q (⟨d, .call ⟨.builtin .clear, #[X], #[T]⟩, ty, pos, af, none⟩ :: rest) s w := fun w' hrun cur' h1 h2 h3 => by
    refine xR (.tuple #[]) w' (by simp) ?_ (h w' cur' h1 h2 h3)
    simp only [execOp, resolve, invoke, builtin, Sem.run_bind, Sem.run_pure, Result.andThen_ok, List.map_toArray, List.map_cons, List.map_nil, hX, hrun]
  subst hv
  rcases hT with ⟨_, h2, _⟩ | ⟨g', cap', h1, rfl⟩
  · cases h2
  · cases h1
    by_cases hml : m = lo
    · refine fin w ?_ cur hraw (fun _ _ _ h => h) ⟨rfl, rfl, rfl, Nat.le_refl _, fun _ _ _ => rfl⟩
      rw [hml, Nat.sub_self]
      split <;> simp [Builtin.clear_, run_underlying he.ht]
    · rw [if_neg (by omega)] at fin
      have hlen : (Builtin.zeroCells z.cells (m - lo)).toList.length = (m - lo) * k := by rw [Array.length_toList, size_zeroCells, hzs]
      have hf : lo * k + (Builtin.zeroCells z.cells (m - lo)).toList.length ≤ cur.length := by rw [hlen, hraw.size, ← Nat.add_mul]; exact Nat.mul_le_mul_right _ (by omega)
      have hone : ∀ u ∈ (Builtin.zeroCells z.cells (m - lo)).toList, u.oneCell' = true := by
        intro u hu
        have := hz1 z (by rw [hq]; exact hzz)
        simp only [Builtin.zeroCells, Array.toList_map, List.mem_map] at hu
        obtain ⟨j, _, rfl⟩ := hu
        have hlt2 : j % z.cells.size < z.cells.size := Nat.mod_lt _ (by omega)
        rw [getElem!_pos z.cells _ hlt2]
        exact this _ (by simp)
      have hst := run_storeCells_at (P := P) g (lo * k) E (Builtin.zeroCells z.cells (m - lo)).toList 0 cur.toArray w hraw.here (by simpa using hf) hone
      simp only [Nat.add_zero] at hst
      have hrun : (Builtin.clear_ #[T] ty #[.slice (some ⟨g, lo * k, none⟩) (m - lo) (cap - lo)]).run P w = .ok (.tuple #[]) (w.setRow g (putAt k cur lo (Builtin.zeroCells z.cells (m - lo)).toList).toArray) := by
        obtain ⟨j, hj⟩ : ∃ j, m - lo = j + 1 := ⟨m - lo - 1, by omega⟩
        rw [hj] at hst ⊢
        simp [Builtin.clear_, run_underlying he.ht, zeroValue, typeInfo, hq, hzz, hst, putAt]
      exact fin _ hrun _ (hraw.put hf) (fun a zs hb hz => at_lo hz hb (by omega)) (grown_w (wrote_set hraw.here))
theorem Raw.below {w w' : World} {B E k g cap : Nat} {cur : List Value} (h : Raw w B E k g cap cur) (hB : Below w.heap.size w w') : Raw w' B E k g cap cur :=
  ⟨h.base, zB h.here hB, h.capm, h.size⟩
theorem Lq_slTot {K : Fm → Prop} {X : Operand} {hi : Operand} {T E k bytes : Nat} (he : Elem P T E k bytes) (v : Value) (g N c tot : Nat) (hv : v = .slice (some ⟨g, 0, none⟩) N c) (hX : s.ev n X = v) (hhi : ∃ kk, s.ev n hi = .int kk tot) (h2 : tot ≤ c)
    (h : Lq P n ops w K rest (s.put d (.slice (some ⟨g, 0, none⟩) tot c))) : Lq P n ops w K (⟨d, .slice T X none (some hi) none, ty, pos, af, none⟩ :: rest) s := by
  subst hv
  obtain ⟨kk, hhi⟩ := hhi
  refine Lq_val _ (fun w' _ => ?_) h
  have hb := sliceB (P := P) (w := w') (len := N) (cap := c) (lo := none) (hi := some (.int kk (tot : Nat))) 0 tot rfl ⟨kk, rfl⟩ (Nat.zero_le _) h2 true
  have e : (if c = 0 then some (⟨g, 0, none⟩ : Addr) else some ((⟨g, 0, none⟩ : Addr).add (0 * k))) = some ⟨g, 0, none⟩ := by
    split
    · rfl
    · rw [add_lit, Nat.zero_mul]
  simp only [execOp, hX, hhi, Instr.sliceAt, Instr.slice, Sem.run_bind, Sem.run_pure, Result.andThen_ok, run_underlying he.ht, hb, run_size he, Option.map_none, Option.map_some, e, Nat.sub_zero]
theorem Lq_slRaw {K : Fm → Prop} {X : Operand} {lo hi : Option Operand} {T E k bytes : Nat} (he : Elem P T E k bytes) (v : Value) (g o N c l hh : Nat) (hv : v = .slice (some ⟨g, o * k, none⟩) N c) (hX : s.ev n X = v)
    (hlo : match lo with | none => l = 0 | some x => ∃ kk, s.ev n x = .int kk l) (hhi : match hi with | none => hh = N | some x => ∃ kk, s.ev n x = .int kk hh) (h1 : l ≤ hh) (h2 : hh ≤ c) (h3 : l < c)
    (h : Lq P n ops w K rest (s.put d (.slice (some ⟨g, (o + l) * k, none⟩) (hh - l) (c - l)))) : Lq P n ops w K (⟨d, .slice T X lo hi none, ty, pos, af, none⟩ :: rest) s := by
  subst hv
  refine Lq_val _ (fun w' _ => ?_) h
  have hb := sliceB (P := P) (w := w') (len := N) (cap := c) (lo := lo.map (s.ev n)) (hi := hi.map (s.ev n)) l hh (by cases lo <;> exact hlo) (by cases hi <;> exact hhi) h1 h2 true
  have e : (if c = l then some (⟨g, o * k, none⟩ : Addr) else some ((⟨g, o * k, none⟩ : Addr).add (l * k))) = some ⟨g, (o + l) * k, none⟩ := by
    rw [if_neg (by omega), add_lit, Nat.add_mul]
  simp only [execOp, hX, Instr.sliceAt, Instr.slice, Sem.run_bind, Sem.run_pure, Result.andThen_ok, run_underlying he.ht, hb, run_size he, Option.map_none, Option.map_some, e]
theorem Lq_aggne {K : Fm → Prop} {t yt : TypeId} {X Y : Operand} (xs ys : List Value) (b : Bool) (hx : s.ev n X = .agg xs.toArray) (hy : s.ev n Y = .agg ys.toArray) (hm : P.eqGuardType P.depth t = false)
    (hq : ∀ w, (Op.equalIn 10000 t (.agg xs.toArray) (.agg ys.toArray)).run P w = .ok b w)
    (ht : b = false → Lq P n ops w K rest (s.put d (.bool true))) (hf : b = true → Lq P n ops w K rest (s.put d (.bool false))) : Lq P n ops w K (⟨d, .binOp .neq t X Y yt, ty, pos, af, none⟩ :: rest) s := by
  have hg : ∀ w, (eqGuard .neq t X Y (.agg xs.toArray) (.agg ys.toArray)).run P w = .ok () w := fun w => run_eqGuard_agg (P := P) w .neq t X Y xs.toArray ys.toArray hm
  have hb : ∀ w, (binOp .neq t (.agg xs.toArray) (.agg ys.toArray)).run P w = .ok (.bool (!b)) w := fun w => by
    have hb := run_neq_struct (P := P) w t xs.toArray ys.toArray
    rw [hq, Result.andThen_ok] at hb
    exact hb
  refine Lq_bin _ _ _ hx hy hg hb ?_
  cases b with
  | true => exact hf rfl
  | false => exact ht rfl
theorem L_overlaps {X Y : Operand} {ats : Array TypeId} {T R E k bytes f : Nat} {fn : Func} (he : Elem P T E k bytes) (hf : P.funcs[f]? = some fn) (hname : (fn.name == "runtime.NumGoroutine") = false) (hb : fn.body.isNone = true) (hn : Extern.findNext fn = none) (hfind : Extern.find fn = some (Extern.SlicesOverlaps.overlaps #[T, T] #[R]))
    {ga gb Ea Eb ka kb Ba Bb capa capb : Nat} {cura curb : List Value} (oa la ca ob lb cb : Nat) (ha : Raw w Ba Ea ka ga capa cura) (hbr : Raw w Bb Eb kb gb capb curb) (hne : ga ≠ gb) (hpos : 0 < curb.length)
    (hX : s.ev n X = .slice (some ⟨ga, oa, none⟩) la ca) (hY : s.ev n Y = .slice (some ⟨gb, ob, none⟩) lb cb)
    (h : L r P n ops Q rest (s.put d (.bool false)) w) : L r P n ops Q (⟨d, .call ⟨.value (.func f), #[X, Y], ats⟩, ty, pos, af, none⟩ :: rest) s w := by
  have hrun := Lib.run_overlaps_apart (P := P) w T R E he.ht k (fun _ => run_size he) ⟨ga, oa, none⟩ ⟨gb, ob, none⟩ la ca lb cb hne Ea Eb cura.length curb.length ha.shape hbr.shape (by omega) (ha.frozen _) (ha.frozen _)
  refine xR (.bool false) w (by simp) ?_ h
  have e0 : s.ev n (.func f) = .func (.func f) #[] #[] := rfl
  simp [execOp, resolve, invoke, e0, hX, hY, Deferred.ofValue, run_callFunc_extern hf hname hb hn hfind, hrun]
end ops
end Go.FK
end

/- === FKae === -/
section
/- FKae: a region that draws its order, of which the first operations only read and must all come before one that changes memory: they may be walked in the order of the text. My own text. -/
set_option linter.unusedVariables false
namespace Go.FK
open Go Go.RowKit
def onB (o : Oper) (i : Nat) : Bool := o.after.any fun e => Region.binds .any e && Nat.beq e.on i
def preOk (ops : Array Oper) (k : Nat) : Bool :=
  ((List.range k).all fun i => match ops[i]? with
    | some o => (o.after.all fun e => !Region.binds .any e || decide (e.on < i)) && (match o.guard with | none => true | some g => decide (g.1 < k))
    | none => false) &&
  ((List.range k).all fun i => (List.range (k + 1)).any fun j => decide (i < j) && (match ops[j]? with | some o => onB o i | none => false)) &&
  ((List.range ops.size).all fun j => decide (j ≤ k) || (match ops[j]? with | some o => o.after.any fun e => Region.binds .any e && decide (k ≤ e.on) | none => false))
def preL (k N : Nat) : Array Bool := ((List.range N).map fun j => decide (j < k)).toArray
section
variable {ops : Array Oper} {k : Nat} {L : Array Bool}
structure PreI (ops : Array Oper) (k : Nat) (L : Array Bool) : Prop where
  size : L.size = ops.size
  high : ∀ j, k ≤ j → j < ops.size → L.getD j true = false
  down : ∀ i o, i < k → ops[i]? = some o → L.getD i true = true → ∀ e ∈ o.after, Region.binds .any e = true → L.getD e.on false = true
theorem pre_back (h : preOk ops k = true) {i : Nat} (hi : i < k) : ∃ o, ops[i]? = some o ∧ (∀ e ∈ o.after, Region.binds .any e = true → e.on < i) ∧ (∀ g, o.guard = some g → g.1 < k) := by
  unfold preOk at h
  simp only [Bool.and_eq_true, List.all_eq_true, List.mem_range] at h
  have h1 := h.1.1 i hi
  cases ho : ops[i]? with
  | none => rw [ho] at h1; cases h1
  | some o =>
    rw [ho] at h1
    simp only [Bool.and_eq_true] at h1
    refine ⟨o, rfl, fun e he hb => ?_, fun g hg => ?_⟩
    · have := Array.all_eq_true'.1 h1.1 e he
      simpa [hb] using this
    · have h2 := h1.2; rw [hg] at h2; simpa using h2
theorem pre_used (h : preOk ops k = true) {i : Nat} (hi : i < k) : ∃ j o, i < j ∧ j ≤ k ∧ ops[j]? = some o ∧ ∃ e ∈ o.after, Region.binds .any e = true ∧ e.on = i := by
  unfold preOk at h
  simp only [Bool.and_eq_true, List.all_eq_true, List.mem_range, List.any_eq_true] at h
  obtain ⟨j, hj, h1, h2⟩ := h.1.2 i hi
  cases ho : ops[j]? with
  | none => rw [ho] at h2; cases h2
  | some o =>
    rw [ho] at h2
    simp only [onB] at h2
    obtain ⟨e, he, hb⟩ := Array.any_eq_true'.1 h2
    simp only [Bool.and_eq_true] at hb
    exact ⟨j, o, by simpa using h1, by omega, ho, e, he, hb.1, Nat.eq_of_beq_eq_true hb.2⟩
theorem pre_rest (h : preOk ops k = true) {j : Nat} (hj : k < j) {o : Oper} (ho : ops[j]? = some o) : ∃ e ∈ o.after, Region.binds .any e = true ∧ k ≤ e.on := by
  unfold preOk at h
  simp only [Bool.and_eq_true, List.all_eq_true, List.mem_range] at h
  have hlt : j < ops.size := (Array.getElem?_eq_some_iff.1 ho).1
  have h1 := h.2 j hlt
  rw [ho] at h1
  simp only [Bool.or_eq_true] at h1
  rcases h1 with h1 | h1
  · have := of_decide_eq_true h1; omega
  · obtain ⟨e, he, hb⟩ := Array.any_eq_true'.1 h1
    simp only [Bool.and_eq_true] at hb
    exact ⟨e, he, hb.1, of_decide_eq_true hb.2⟩
theorem getD_tf {L : Array Bool} {i : Nat} (h : i < L.size) : L.getD i false = L.getD i true := by simp [h]
theorem pre_low (h : preOk ops k = true) (hI : PreI ops k L) (hk : k ≤ ops.size) {i : Nat} (hi : i < k) (hu : L.getD i true = false) {j : Nat} (hj : j ∈ Region.ready .any ops L) : j < k := by
  rcases Nat.lt_or_ge j k with hlt | hge
  · exact hlt
  exfalso
  obtain ⟨h0, o, ho, hall⟩ := mem_ready.1 hj
  rcases Nat.lt_or_ge k j with hlt | hle
  · obtain ⟨e, he, hb, hke⟩ := pre_rest h hlt ho
    have h1 := hall e he hb
    rcases Nat.lt_or_ge e.on ops.size with hs | hs
    · rw [getD_tf (by rw [hI.size]; exact hs), hI.high _ hke hs] at h1; cases h1
    · rw [Array.getD_eq_getD_getElem?, Array.getElem?_eq_none (by rw [hI.size]; exact hs)] at h1; cases h1
  · obtain rfl : j = k := by omega
    -- all of the k first are listed
    have key : ∀ m i, j - i ≤ m → i < j → L.getD i true = true := by
      intro m
      induction m with
      | zero => intro i h1 h2; omega
      | succ m ih =>
        intro i h1 h2
        obtain ⟨j', o', hij, hjk, ho', e, he, hb, heq⟩ := pre_used h h2
        rw [← heq]
        rw [← getD_tf (by rw [hI.size]; omega)]
        rcases Nat.lt_or_ge j' j with hl | hg
        · exact hI.down j' o' hl ho' (ih j' (by omega) hl) e he hb
        · obtain rfl : j' = j := by omega
          rw [ho] at ho'; cases ho'
          exact hall e he hb
    have := key j i (by omega) hi
    rw [hu] at this; cases this
theorem pre_ready (h : preOk ops k = true) (hI : PreI ops k L) : ∀ i, i < k → L.getD i true = false → ∃ j, j < k ∧ j ∈ Region.ready .any ops L := by
  intro i
  induction i using Nat.strongRecOn with
  | ind i ih =>
    intro hi hu
    obtain ⟨o, ho, hb, _⟩ := pre_back h hi
    by_cases hx : ∃ m, m < i ∧ L.getD m true = false
    · obtain ⟨m, hm, hmu⟩ := hx
      exact ih m hm (by omega) hmu
    · refine ⟨i, hi, mem_ready.2 ⟨hu, o, ho, fun e he hbi => ?_⟩⟩
      have hlt := hb e he hbi
      have his : i < ops.size := (Array.getElem?_eq_some_iff.1 ho).1
      rw [getD_tf (by rw [hI.size]; omega)]
      cases hc : L.getD e.on true with
      | true => rfl
      | false => exact absurd ⟨_, hlt, hc⟩ hx
theorem PreI.set (hI : PreI ops k L) {i : Nat} (hi : i < k) (hr : i ∈ Region.ready .any ops L) : PreI ops k (L.setIfInBounds i true) := by
  obtain ⟨h0, o, ho, hall⟩ := mem_ready.1 hr
  refine ⟨by rw [Array.size_setIfInBounds]; exact hI.size, fun j hj hs => by rw [getD_set_ne true (by omega)]; exact hI.high j hj hs, fun j o' hj ho' hl e he hb => ?_⟩
  by_cases hij : i = j
  · subst hij
    rw [ho] at ho'; cases ho'
    exact getD_set_true (hall e he hb)
  · rw [getD_set_ne true hij] at hl
    exact getD_set_true (hI.down j o' hj ho' hl e he hb)
def unl (L : Array Bool) : Nat → Nat
  | 0 => 0
  | k + 1 => (if L.getD k true = false then 1 else 0) + unl L k
theorem unl_far {i : Nat} : ∀ k, k ≤ i → unl (L.setIfInBounds i true) k = unl L k
  | 0, _ => rfl
  | k + 1, h => by unfold unl; rw [getD_set_ne true (by omega), unl_far k (by omega)]
theorem unl_set {i : Nat} (hs : i < L.size) (hu : L.getD i true = false) : ∀ k, i < k → unl (L.setIfInBounds i true) k + 1 = unl L k
  | 0, h => by omega
  | k + 1, h => by
    unfold unl
    by_cases hik : i = k
    · subst hik
      rw [unl_far i (Nat.le_refl _), if_pos hu, if_neg (by simp [hs])]; omega
    · rw [getD_set_ne true hik, ← unl_set hs hu k (by omega)]; omega
theorem unl_zero : ∀ k, unl L k = 0 → ∀ i, i < k → L.getD i true = true
  | 0, _, i, h => by omega
  | k + 1, h, i, hi => by
    unfold unl at h
    rcases Nat.lt_or_ge i k with hl | hg
    · exact unl_zero k (by omega) i hl
    · obtain rfl : i = k := by omega
      cases hc : L.getD i true with
      | true => rfl
      | false => rw [if_pos hc] at h; omega
theorem unl_some : ∀ k, unl L k ≠ 0 → ∃ i, i < k ∧ L.getD i true = false
  | 0, h => absurd rfl h
  | k + 1, h => by
    unfold unl at h
    by_cases hc : L.getD k true = false
    · exact ⟨k, by omega, hc⟩
    · rw [if_neg hc] at h
      obtain ⟨i, hi, hu⟩ := unl_some k (by omega)
      exact ⟨i, by omega, hu⟩
theorem unl_all {N : Nat} : ∀ k, k ≤ N → unl (Array.replicate N false) k = k
  | 0, _ => rfl
  | k + 1, h => by unfold unl; rw [if_pos (by simp [show k < N by omega]), unl_all k (by omega)]; omega
theorem preL_eq (hI : PreI ops k L) (hk : k ≤ ops.size) (h0 : unl L k = 0) : L = preL k ops.size := by
  refine Array.ext (by rw [hI.size]; simp [preL]) fun i h1 h2 => ?_
  have hs : i < ops.size := by rw [← hI.size]; exact h1
  have e : L.getD i true = L[i] := by simp [h1]
  rw [← e]
  have e2 : (preL k ops.size)[i] = decide (i < k) := by simp [preL]
  rw [e2]
  rcases Nat.lt_or_ge i k with hl | hg
  · rw [unl_zero k h0 i hl, decide_eq_true hl]
  · rw [hI.high i hg hs, decide_eq_false (by omega)]
theorem ready_take (hI : PreI ops k L) (hk : k ≤ ops.size) {j : Nat} (hj : j < k) : j ∈ Region.ready .any ops L ↔ j ∈ Region.ready .any (ops.toList.take k).toArray L := by
  rw [mem_ready, mem_ready]
  have e : (ops.toList.take k).toArray[j]? = ops[j]? := by
    rw [List.getElem?_toArray, List.getElem?_take, if_pos hj, Array.getElem?_toList]
  rw [e]
theorem take_atE {j : Nat} (hj : j < k) : (ops.toList.take k).toArray[j]? = ops[j]? := by
  rw [List.getElem?_toArray, List.getElem?_take, if_pos hj, Array.getElem?_toList]
theorem yielded_take {j : Nat} (hj : j < k) (t : Array Value) : yielded (ops.toList.take k).toArray t j = yielded ops t j := by
  unfold yielded; rw [take_atE hj]
theorem wanted_take {o : Oper} (ho : ∀ g, o.guard = some g → g.1 < k) (t : Array Value) : Region.wanted o (yielded (ops.toList.take k).toArray t) = Region.wanted o (yielded ops t) := by
  unfold Region.wanted
  cases hg : o.guard with
  | none => rfl
  | some g =>
    obtain ⟨j, b⟩ := g
    simp only
    rw [yielded_take (ho _ hg)]
end
section
variable {P : Program} {n : Nat} {ops : Array Oper} {k fuel : Nat} {C : World → Prop} {K : Act → Prop} {Q' : Exit → Act → World → Prop}
theorem pre_any (h : preOk ops k = true) (hk : k ≤ ops.size) (hd : noDefers ops = true)
    (H : ∀ a w, C w → K a → wpAnyIn (Fw none) 0 P .any ops Q' fuel (preL k ops.size) a w) : ∀ (m : Nat) (L : Array Bool) (a : Act) (w : World), PreI ops k L → unl L k = m → C w →
    wpAnyQ P .any (ops.toList.take k).toArray C K m L a → wpAnyIn (Fw none) 0 P .any ops Q' (m + fuel) L a w
  | 0, L, a, w, hI, hu, hw, hq => by
    rw [Nat.zero_add, preL_eq hI hk hu]
    exact H a w hw hq.2
  | m + 1, L, a, w, hI, hu, hw, hq => by
    obtain ⟨i0, hi0, hu0⟩ := unl_some k (by omega : unl L k ≠ 0)
    rw [show m + 1 + fuel = m + fuel + 1 by omega]
    refine ⟨fun he => ?_, fun i hi => ?_⟩
    · obtain ⟨j, _, hj⟩ := pre_ready h hI i0 hi0 hu0
      rw [he] at hj; cases hj
    · have hik := pre_low h hI hk hi0 hu0 hi
      have hq2 := hq.2 i ((ready_take hI hk hik).1 hi)
      obtain ⟨o, ho, _, hg⟩ := pre_back h hik
      have hs : i < L.size := by rw [hI.size]; omega
      have hun := (mem_ready.1 hi).1
      have hset := unl_set hs hun k hik
      have hq3 : qOp P ops C i (wpAnyQ P .any (ops.toList.take k).toArray C K m (L.setIfInBounds i true)) a := by
        unfold qOp at hq2 ⊢
        rw [take_atE hik, ho] at hq2
        rw [ho]
        simp only at hq2 ⊢
        rw [wanted_take hg] at hq2
        exact hq2
      exact opIn_quiet hd hw (fun a' w' hw' hK => pre_any h hk hd H m _ a' w' (hI.set hik hi) (by omega) hw' hK) hq3
end
theorem PreI.zero {ops : Array Oper} {k : Nat} : PreI ops k (Array.replicate ops.size false) := by
  refine ⟨by simp, fun j _ hs => by simp [hs], fun i o hi ho hl e he hb => ?_⟩
  have hs : i < ops.size := (Array.getElem?_eq_some_iff.1 ho).1
  simp [hs] at hl
section
variable {P : Program} {n : Nat} {Q : Post} {s : Fm} {w : World}
theorem W_pre {r : Option Nat} {id : Nat} {l : List Oper} (k N m : Nat) (hN : Nat.beq l.length N = true) (hm : P.follows .mixedOrders = true) (hd : noDefers l.toArray = true) (hp : preOk l.toArray k = true)
    (hs : Region.noSelect (l.take k).toArray = true) (hB : Region.lexFrom .any (l.take k).toArray (l.take k).length 0 (Array.replicate N false) = true) (hk : Nat.beq (k + m) N = true)
    (h : Lq P n (l.take k).toArray w (fun s' => ∀ w', Below w.heap.size w w' → Li P n l.toArray Q m (preL k N) s' w') (l.take k) s) : W r P n (.region id l.toArray true) Q s w := by
  refine W_draws N hN hm hd fun w' hw' => ?_
  obtain rfl := Nat.eq_of_beq_eq_true hN
  have hk := Nat.eq_of_beq_eq_true hk
  have hl : (l.take k).length = k := by rw [List.length_take]; omega
  have key := pre_any (P := P) (Q' := upQ n Q) (C := fun w' => Below w.heap.size w w') (K := fun a => ∃ s, a = Fm.act n s ∧ ∀ w', Below w.heap.size w w' → Li P n l.toArray Q m (preL k l.length) s w') (fuel := m) hp (by simp; omega) hd (by
    rintro a w2 hw2 ⟨s2, rfl, hK⟩
    have := hK w2 hw2
    unfold Li at this
    simpa using this) k (Array.replicate l.length false) (s.act n) w' (by have := PreI.zero (ops := l.toArray) (k := k); simpa using this) (unl_all k (by omega)) hw' ?_
  · unfold Li
    rw [hk] at key
    exact key
  · unfold Lq at h
    have h2 := wpAnyQ_lex (md := .any) hs (l.take k) 0 (Array.replicate l.length false) (s.act n) (fun j => by simp) hB h
    rw [hl] at h2
    simpa using h2
end
end Go.FK
end
