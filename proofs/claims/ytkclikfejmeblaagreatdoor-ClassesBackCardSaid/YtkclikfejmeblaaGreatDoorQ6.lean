/- Joined by my program pack.py out of my own texts: Wctab Wctb2 Wmbl2. -/
import Derived.Test.YtkclikfejmeblaaGreatDoorProg
import Derived.Tactics2
import Derived.Test.YtkclikfejmeblaaGreatDoorQ2
import Derived.Test.YtkclikfejmeblaaGreatDoorQ3
import Derived.Test.YtkclikfejmeblaaGreatDoorQ4
import Derived.Test.YtkclikfejmeblaaGreatDoorQ5
set_option linter.unusedVariables false
set_option linter.unusedSimpArgs false
/- === Wctab === -/
section
/- Walks, written by my program walk.py out of the specification ctab.py: each theorem says what one function returns and that it leaves memory as it was. -/
namespace Go.Proofs.YtkclikfejmeblaaGreatDoor
open Go Go.RowKit Go.FK
set_option maxHeartbeats 4000000
set_option maxRecDepth 100000
set_option linter.unusedVariables false
set_option linter.unusedSimpArgs false
theorem el42 : Elem Tryz.prog 42 45 3 12 := ⟨Tryz.underlying42, by kernel_rfl, rfl⟩
theorem el68 : Elem Tryz.prog 68 67 1 8 := ⟨Tryz.underlying68, by kernel_rfl, rfl⟩
theorem el29 : Elem Tryz.prog 29 34 3 12 := ⟨Tryz.underlying29, by kernel_rfl, rfl⟩
theorem c_classes_told (no : Int) (k : Int) (m : List UInt8) (v_f : Value) (f : List (List UInt8)) (t : List UInt8) (wrong : Int) (w : World) (p_f : Rd w encStr v_f f) {m_ml : Int} (hml : w.cell? ⟨1, 0, none⟩ = some (.int .i64 m_ml)) (hf : ∀ x ∈ f, x.length ≤ 1073741824) (hn : f.length ≤ 1073741824) :
  Calls Tryz.prog 60 #[(Value.agg #[(.int .i64 no), (.int .u8 k), (S m), v_f, (S t)]), (.int .i64 wrong)] w (Ret fun v w' => v = (.tuple #[(Value.agg #[(.int .i32 ((toldC f wrong).1)), (.int .i32 ((toldC f wrong).2.1))]), (.int .u8 ((toldC f wrong).2.2.1)), (.int .i64 ((toldC f wrong).2.2.2))]) ∧ Below w.heap.size w w') := by
 refine K11 (enter (args := [(Value.agg #[(.int .i64 no), (.int .u8 k), (S m), v_f, (S t)]), (.int .i64 wrong)]) Tryz.func60 rfl (by kernel_rfl : _ = 39)) ?_
 have hb := Below.refl w.heap.size w
 have hs : w.heap.size ≤ w.heap.size := Nat.le_refl _
 have in_p_f := p_f
 refine zF (zD (K21 (yW (fun b => .pointer (some ⟨b, 0, none⟩)) (.cells [(.int .i64 no), (.int .u8 k), (S m), v_f, (S t)].toArray 72 (0, 0))) ?_))
 intro b1 w2 hN3
 have g_x2 : w.heap.size ≤ b1 := by rw [hN3.num]; exact hs
 replace hb := hb.trans (hN3.below.mono hs)
 replace hs := Nat.le_trans hs (hN3.below.size)
 replace p_f := p_f.below hN3.below
 have o_x2 := hN3.here
 refine K21 (yW (fun b => .pointer (some ⟨b, 0, none⟩)) (.cells [(.int .i32 0), (.int .i32 0)].toArray 32 (0, 0))) ?_
 intro b4 w5 hN6
 have g_x4 : w.heap.size ≤ b4 := by rw [hN6.num]; exact hs
 replace hb := hb.trans (hN6.below.mono hs)
 replace hs := Nat.le_trans hs (hN6.below.size)
 replace o_x2 := zB o_x2 hN6.below
 replace p_f := p_f.below hN6.below
 have o_x4 := hN6.here
 refine zJ (zJ (zE (zA (zF (zF (zD (K21 (zQ (.pointer (some ⟨b1, 3, none⟩))) (K22 (zZ b1 3 v_f) (zM o_x2 rfl) (K11 (L_len 70 9 (f).length v_f rfl Tryz.underlying70 (p_f).len) (K22 (yD .i64 (((f).length : Nat) : Int) ((2 : Nat) : Int) ((f).length ≠ 2) rfl (cmpN_ne ((f).length) 2)) ?_ ?_))))))))))
 ·intro h7
  replace h7 : (f).length ≠ 2 := by omega
  refine zE (zA (K11 zS (zF (zD (K21 (zQ (Value.agg #[(.int .i32 0), (.int .i32 0)])) (zI (K26 (yX b4 0 [(.int .i32 0), (.int .i32 0)] [(.int .i32 0), (.int .i32 0)] [(.int .i32 0), (.int .i32 0)] 32) rfl (by kernel_rfl) o_x4 (by kernel_rfl) rfl ?_)))))))
  intro w8 hW9
  replace hb := hb.trans (hW9.below g_x4)
  replace hs := Nat.le_trans hs (Nat.le_of_eq hW9.size.symm)
  replace o_x4 := hW9.here
  refine zJ (zJ (zE (zA (zX (zH ?_)))))
  refine zO [.cell 4 32, .tmp 5, .tmp 6] [(Value.agg #[(.int .i32 0), (.int .i32 0)]), (.int .u8 0), (.int .i64 wrong)] rfl rfl ⟨⟨⟨b4, 0, none⟩, by kernel_rfl, xN [(.int .i32 0), (.int .i32 0)] (by kernel_rfl) (by kernel_rfl) (xH o_x4)⟩, by kernel_rfl, by kernel_rfl, trivial⟩ ?_
  have hE : ((Value.agg #[(.int .i32 0), (.int .i32 0)]) = (Value.agg #[(.int .i32 ((toldC f wrong).1)), (.int .i32 ((toldC f wrong).2.1))])) ∧ ((0 : Int) = (toldC f wrong).2.2.1) ∧ ((wrong : Int) = (toldC f wrong).2.2.2) := ⟨(by (rw [tc_no (by omega)]; done)), (by (rw [tc_no (by omega)]; done)), (by (rw [tc_no (by omega)]; done))⟩
  exact ⟨tup3 (hE.1) (congrArg (Value.int .u8) hE.2.1) (congrArg (Value.int .i64) hE.2.2), hb⟩
 ·intro h10
  replace h10 : (f).length = 2 := by omega
  refine zE (zA (K11 zN (zV (zA (zF (zD (K21 (zQ (.pointer (some ⟨b1, 3, none⟩))) (K22 (zZ b1 3 v_f) (zM o_x2 rfl) ?_))))))))
  have hz := yT f 0 (by omega); obtain ⟨x11, hx12⟩ := hz
  have hz := (p_f).at (k := 1) (fun _ => rfl) hx12
  obtain ⟨g13, off14, hl15, hc16⟩ := hz
  have hxl_x11 := hf _ (List.mem_of_getElem? hx12)
  refine K21 (xE (k := .i64) v_f 0 _ g13 off14 el70 hl15 (by omega)) (K22 (zZ g13 (off14 + 0 * 1) (S x11)) (hc16 0 _ rfl) (K22 (yA 99 [(S x11)]) (c_points_Span x11 _ (gcell_below hml hb) (by omega)) ?_))
  rintro _ w17 ⟨rfl, hB18⟩
  replace hb := hb.trans (hB18.mono hs)
  replace hs := Nat.le_trans hs (hB18.size)
  replace o_x2 := zB o_x2 hB18
  replace o_x4 := zB o_x4 hB18
  replace p_f := p_f.below hB18
  refine zI (K21 (zQ (Value.agg #[(.int .i32 ((spanF x11).1)), (.int .i32 ((spanF x11).2.1))])) (K21 (zQ (.int .i64 ((spanF x11).2.2))) (K21 (yW (fun b => .pointer (some ⟨b, 0, none⟩)) (.cells [(.int .i32 0), (.int .i32 0)].toArray 32 (0, 0))) ?_)))
  intro b20 w21 hN22
  have ne_x4_x7 : NE b4 b20 := by have := (yR o_x4); have := hN22.num; show _ ≠ _; omega
  have g_x7 : w.heap.size ≤ b20 := by rw [hN22.num]; exact hs
  replace hb := hb.trans (hN22.below.mono hs)
  replace hs := Nat.le_trans hs (hN22.below.size)
  replace o_x2 := zB o_x2 hN22.below
  replace o_x4 := zB o_x4 hN22.below
  replace p_f := p_f.below hN22.below
  have o_x7 := hN22.here
  refine K26 (yX b20 0 [(.int .i32 ((spanF x11).1)), (.int .i32 ((spanF x11).2.1))] [(.int .i32 0), (.int .i32 0)] [(.int .i32 ((spanF x11).1)), (.int .i32 ((spanF x11).2.1))] 32) rfl (by kernel_rfl) o_x7 (by kernel_rfl) rfl ?_
  intro w23 hW24
  replace hb := hb.trans (hW24.below g_x7)
  replace hs := Nat.le_trans hs (Nat.le_of_eq hW24.size.symm)
  replace o_x2 := zL o_x2 hW24 (zT o_x2 o_x7 (by simp))
  replace o_x4 := zL o_x4 hW24 ne_x4_x7
  replace p_f := in_p_f.below hb
  replace o_x7 := hW24.here
  refine zJ (zE (zA (zF (zF (zD (zI (K22 (yD .i64 ((spanF x11).2.2) 0 ((spanF x11).2.2 ≠ 0) rfl (cmp_ne ((spanF x11).2.2) 0)) ?_ ?_)))))))
  ·intro h25
   replace h25 : (spanF x11).2.2 ≠ 0 := by omega
   refine zE (zA (K11 zS (zF (zD (K21 (zQ (Value.agg #[(.int .i32 0), (.int .i32 0)])) (zI (K26 (yX b4 0 [(.int .i32 0), (.int .i32 0)] [(.int .i32 0), (.int .i32 0)] [(.int .i32 0), (.int .i32 0)] 32) rfl (by kernel_rfl) o_x4 (by kernel_rfl) rfl ?_)))))))
   intro w26 hW27
   replace hb := hb.trans (hW27.below g_x4)
   replace hs := Nat.le_trans hs (Nat.le_of_eq hW27.size.symm)
   replace o_x4 := hW27.here
   refine zJ (zJ (zE (zA (zX (zH ?_)))))
   refine zO [.cell 4 32, .tmp 5, .tmp 6] [(Value.agg #[(.int .i32 0), (.int .i32 0)]), (.int .u8 0), (.int .i64 ((spanF x11).2.2))] rfl rfl ⟨⟨⟨b4, 0, none⟩, by kernel_rfl, xN [(.int .i32 0), (.int .i32 0)] (by kernel_rfl) (by kernel_rfl) (xH o_x4)⟩, by kernel_rfl, by kernel_rfl, trivial⟩ ?_
   have hE : ((Value.agg #[(.int .i32 0), (.int .i32 0)]) = (Value.agg #[(.int .i32 ((toldC f wrong).1)), (.int .i32 ((toldC f wrong).2.1))])) ∧ ((0 : Int) = (toldC f wrong).2.2.1) ∧ (((spanF x11).2.2 : Int) = (toldC f wrong).2.2.2) := ⟨(by (rw [tc_span (by omega) (by assumption) (by assumption)]; done)), (by (rw [tc_span (by omega) (by assumption) (by assumption)]; done)), (by (rw [tc_span (by omega) (by assumption) (by assumption)]; done))⟩
   exact ⟨tup3 (hE.1) (congrArg (Value.int .u8) hE.2.1) (congrArg (Value.int .i64) hE.2.2), hb⟩
  ·intro h28
   replace h28 : (spanF x11).2.2 = 0 := by omega
   refine zE (zA (K11 zN (zV (zA (zF (zD (K21 (zQ (.pointer (some ⟨b1, 3, none⟩))) (K22 (zZ b1 3 v_f) (zM o_x2 rfl) ?_))))))))
   have hz := yT f 1 (by omega); obtain ⟨x29, hx30⟩ := hz
   have hz := (p_f).at (k := 1) (fun _ => rfl) hx30
   obtain ⟨g31, off32, hl33, hc34⟩ := hz
   have hxl_x29 := hf _ (List.mem_of_getElem? hx30)
   refine K21 (xE (k := .i64) v_f 1 _ g31 off32 el70 hl33 (by omega)) (K22 (zZ g31 (off32 + 1 * 1) (S x29)) (hc34 0 _ rfl) (K22 (yA 100 [(S x29)]) (c_words_Class x29 _ (by omega)) ?_))
   rintro _ w35 ⟨rfl, hB36⟩
   replace hb := hb.trans (hB36.mono hs)
   replace hs := Nat.le_trans hs (hB36.size)
   replace o_x4 := zB o_x4 hB36
   replace o_x7 := zB o_x7 hB36
   refine zI (K21 (zQ (.int .u8 ((classF x29).1))) (K21 (zQ (.int .i64 ((classF x29).2))) (zJ (zJ (zE (zA (zF (zD (K32 (yH b20 0 [(.int .i32 ((spanF x11).1)), (.int .i32 ((spanF x11).2.1))]) (K10 (yN o_x7 0)) (zI (zI (K26 (yX b4 0 [(.int .i32 ((spanF x11).1)), (.int .i32 ((spanF x11).2.1))] [(.int .i32 0), (.int .i32 0)] [(.int .i32 ((spanF x11).1)), (.int .i32 ((spanF x11).2.1))] 32) rfl (by kernel_rfl) o_x4 (by kernel_rfl) rfl ?_))))))))))))
   intro w38 hW39
   replace hb := hb.trans (hW39.below g_x4)
   replace hs := Nat.le_trans hs (Nat.le_of_eq hW39.size.symm)
   replace o_x4 := hW39.here
   refine zJ (zJ (zE (zA (zX ?_))))
   refine zO [.cell 4 32, .tmp 5, .tmp 6] [(Value.agg #[(.int .i32 ((spanF x11).1)), (.int .i32 ((spanF x11).2.1))]), (.int .u8 ((classF x29).1)), (.int .i64 ((classF x29).2))] rfl rfl ⟨⟨⟨b4, 0, none⟩, by kernel_rfl, xN [(.int .i32 ((spanF x11).1)), (.int .i32 ((spanF x11).2.1))] (by kernel_rfl) (by kernel_rfl) (xH o_x4)⟩, by kernel_rfl, by kernel_rfl, trivial⟩ ?_
   have hE : ((Value.agg #[(.int .i32 ((spanF x11).1)), (.int .i32 ((spanF x11).2.1))]) = (Value.agg #[(.int .i32 ((toldC f wrong).1)), (.int .i32 ((toldC f wrong).2.1))])) ∧ (((classF x29).1 : Int) = (toldC f wrong).2.2.1) ∧ (((classF x29).2 : Int) = (toldC f wrong).2.2.2) := ⟨(by (rw [tc_ok (by omega) (by assumption) (by assumption) (by assumption)]; done)), (by (rw [tc_ok (by omega) (by assumption) (by assumption) (by assumption)]; done)), (by (rw [tc_ok (by omega) (by assumption) (by assumption) (by assumption)]; done))⟩
   exact ⟨tup3 (hE.1) (congrArg (Value.int .u8) hE.2.1) (congrArg (Value.int .i64) hE.2.2), hb⟩
theorem c_classes_Read_ok (f : List UInt8) (s : List UInt8) (w : World) {m_ml : Int} (hml : w.cell? ⟨1, 0, none⟩ = some (.int .i64 m_ml)) (hs : s.length ≤ 33554432) (hok : (clsF s).2.2 = 0) :
  Calls Tryz.prog 10 #[(S f), (S s)] w (Ret fun v w' => ∃ (q0 : Value) (q1 : Value) (q2 : Value) (q3 : Value) (cb0 : Nat) (cb1 : Nat) (cb2 : Nat) (cb3 : Nat), v = (.tuple #[(.pointer (some ⟨cb0, 0, none⟩)), .nilIface]) ∧ Row w' w.heap.size 45 3 encSpanC q0 ((clsF s).1.2.2) ∧ Row w' w.heap.size 126 3 encSpanC q1 ((clsF s).1.1) ∧ Row w' w.heap.size 131 3 encSpanI q2 ((clsF s).1.2.1) ∧ Row w' w.heap.size 126 3 encSpanC q3 (wholeF (clsF s).1) ∧ w'.heap[cb0]? = some (.cells [(.pointer (some ⟨cb1, 0, none⟩)), (.pointer (some ⟨cb2, 0, none⟩)), q0, (.pointer (some ⟨cb3, 0, none⟩))].toArray 66 (0, 0)) ∧ w.heap.size ≤ cb0 ∧ w'.heap[cb1]? = some (.cells [q1, (.bool true)].toArray 115 (0, 0)) ∧ w.heap.size ≤ cb1 ∧ w'.heap[cb2]? = some (.cells [q2, (.bool true)].toArray 118 (0, 0)) ∧ w.heap.size ≤ cb2 ∧ w'.heap[cb3]? = some (.cells [q3, (.bool true)].toArray 115 (0, 0)) ∧ w.heap.size ≤ cb3 ∧ NE cb0 cb1 ∧ NE cb0 cb2 ∧ NE cb0 cb3 ∧ NE cb1 cb2 ∧ NE cb1 cb3 ∧ NE cb2 cb3 ∧ Below w.heap.size w w') := by
 refine K11 (enterM (args := [(S f), (S s)]) Tryz.func10 rfl (by kernel_rfl : _ = 103)) ?_
 have hb := Below.refl w.heap.size w
 have hs : w.heap.size ≤ w.heap.size := Nat.le_refl _
 refine zF (zD (zJ (zJ (zE (zA (zF (zD (zI (zI ?_)))))))))
 by_cases hq1 : (badL (toldF s)).2 = 0
 ·skip
  refine K22 (yA 27 [(S f), (S s)]) (c_lines_Read_ok f s _ (by omega) (by omega)) ?_
  rintro _ w3 ⟨l6, q2, rfl, r_q2, hx7, hB4⟩
  replace r_q2 := r_q2.base hs
  replace hb := hb.trans (hB4.mono hs)
  replace hs := Nat.le_trans hs (hB4.size)
  refine zI (K21 (zQ q2) (K21 (zQ .nilIface) (zJ (zJ (zE (zA (zF (zF (zD (zI (K21 (zQ (.bool false)) (zE (zA (K11 zN (zV (zA (zF (zD (K22 (yA 28 []) (c_new_C _) ?_)))))))))))))))))))
  rintro _ w8 ⟨cb11, rfl, o_cb11, g_cb11, hB9⟩
  replace g_cb11 := Nat.le_trans hs g_cb11
  replace hb := hb.trans (hB9.mono hs)
  replace hs := Nat.le_trans hs (hB9.size)
  replace r_q2 := r_q2.below hB9
  refine K22 (yA 29 []) (c_new_I _) ?_
  rintro _ w12 ⟨cb15, rfl, o_cb15, g_cb15, hB13⟩
  replace g_cb15 := Nat.le_trans hs g_cb15
  replace hb := hb.trans (hB13.mono hs)
  replace hs := Nat.le_trans hs (hB13.size)
  replace o_cb11 := zB o_cb11 hB13
  replace r_q2 := r_q2.below hB13
  refine K22 (yA 28 []) (c_new_C _) ?_
  rintro _ w16 ⟨cb19, rfl, o_cb19, g_cb19, hB17⟩
  have ne_cb11_cb19 : NE cb11 cb19 := by have := (yR o_cb11); show _ ≠ _; omega
  have ne_cb19_cb11 := NE.symm ne_cb11_cb19
  replace g_cb19 := Nat.le_trans hs g_cb19
  replace hb := hb.trans (hB17.mono hs)
  replace hs := Nat.le_trans hs (hB17.size)
  replace o_cb11 := zB o_cb11 hB17
  replace o_cb15 := zB o_cb15 hB17
  replace r_q2 := r_q2.below hB17
  refine K21 (zQ (Value.agg #[(.pointer (some ⟨cb11, 0, none⟩)), (.pointer (some ⟨cb15, 0, none⟩)), (.slice none 0 0), (.pointer (some ⟨cb19, 0, none⟩))])) (K21 (yW (fun b => .pointer (some ⟨b, 0, none⟩)) (.cells [(.pointer (some ⟨cb11, 0, none⟩)), (.pointer (some ⟨cb15, 0, none⟩)), (.slice none 0 0), (.pointer (some ⟨cb19, 0, none⟩))].toArray 66 (0, 0))) ?_)
  intro b20 w21 hN22
  have g_x30 : w.heap.size ≤ b20 := by rw [hN22.num]; exact hs
  replace hb := hb.trans (hN22.below.mono hs)
  replace hs := Nat.le_trans hs (hN22.below.size)
  replace o_cb11 := zB o_cb11 hN22.below
  replace o_cb15 := zB o_cb15 hN22.below
  replace o_cb19 := zB o_cb19 hN22.below
  replace r_q2 := r_q2.below hN22.below
  have o_x30 := hN22.here
  refine K21 (yW (fun b => .pointer (some ⟨b, 0, none⟩)) (.cells [(.pointer none)].toArray 23 (0, 0))) ?_
  intro b23 w24 hN25
  have g_x8 : w.heap.size ≤ b23 := by rw [hN25.num]; exact hs
  replace hb := hb.trans (hN25.below.mono hs)
  replace hs := Nat.le_trans hs (hN25.below.size)
  replace o_cb11 := zB o_cb11 hN25.below
  replace o_cb15 := zB o_cb15 hN25.below
  replace o_cb19 := zB o_cb19 hN25.below
  replace o_x30 := zB o_x30 hN25.below
  replace r_q2 := r_q2.below hN25.below
  have o_x8 := hN25.here
  refine K26 (xC b23 0 (.pointer (some ⟨b20, 0, none⟩)) [(.pointer none)] [(.pointer (some ⟨b20, 0, none⟩))] 23) rfl (by kernel_rfl) o_x8 (by simp) rfl ?_
  intro w26 hW27
  replace hb := hb.trans (hW27.below g_x8)
  replace hs := Nat.le_trans hs (Nat.le_of_eq hW27.size.symm)
  replace o_cb11 := zL o_cb11 hW27 (zT o_cb11 o_x8 (by simp))
  replace o_cb15 := zL o_cb15 hW27 (zT o_cb15 o_x8 (by simp))
  replace o_cb19 := zL o_cb19 hW27 (zT o_cb19 o_x8 (by simp))
  replace o_x30 := zL o_x30 hW27 (zT o_x30 o_x8 (by simp))
  replace r_q2 := r_q2.wrote hW27 (r_q2.ne o_x8 (by simp))
  replace o_x8 := hW27.here
  refine zE (zA (zF (zD (K22 (zZ b23 0 (.pointer (some ⟨b20, 0, none⟩))) (zM o_x8 rfl) (K21 (zQ (.func (.func 30) #[(.pointer (some ⟨b20, 0, none⟩))] #[])) (K22 (zZ b23 0 (.pointer (some ⟨b20, 0, none⟩))) (zM o_x8 rfl) (K21 (zQ (.func (.func 31) #[(.pointer (some ⟨b20, 0, none⟩))] #[])) (K22 (zZ b23 0 (.pointer (some ⟨b20, 0, none⟩))) (zM o_x8 rfl) (K21 (zQ (.func (.func 32) #[(.pointer (some ⟨b20, 0, none⟩))] #[])) (K22 (zZ b23 0 (.pointer (some ⟨b20, 0, none⟩))) (zM o_x8 rfl) (K21 (zQ (.func (.func 33) #[(.pointer (some ⟨b20, 0, none⟩))] #[])) (K21 (yW (fun b => .slice (some ⟨b, 0, none⟩) 4 4) (.cells [(.func (.func 30) #[(.pointer (some ⟨b20, 0, none⟩))] #[]), (.func (.func 31) #[(.pointer (some ⟨b20, 0, none⟩))] #[]), (.func (.func 32) #[(.pointer (some ⟨b20, 0, none⟩))] #[]), (.func (.func 33) #[(.pointer (some ⟨b20, 0, none⟩))] #[])].toArray 67 (0, 0))) ?_))))))))))))
  intro b28 w29 hN30
  have g_b28 : w.heap.size ≤ b28 := by rw [hN30.num]; exact hs
  replace hb := hb.trans (hN30.below.mono hs)
  replace hs := Nat.le_trans hs (hN30.below.size)
  replace o_cb11 := zB o_cb11 hN30.below
  replace o_cb15 := zB o_cb15 hN30.below
  replace o_cb19 := zB o_cb19 hN30.below
  replace o_x30 := zB o_x30 hN30.below
  replace o_x8 := zB o_x8 hN30.below
  replace r_q2 := r_q2.below hN30.below
  have r_b28 : Row w29 w.heap.size 67 1 encVal (.slice (some ⟨b28, 0, none⟩) 4 4) ([(.func (.func 30) #[(.pointer (some ⟨b20, 0, none⟩))] #[]), (.func (.func 31) #[(.pointer (some ⟨b20, 0, none⟩))] #[]), (.func (.func 32) #[(.pointer (some ⟨b20, 0, none⟩))] #[]), (.func (.func 33) #[(.pointer (some ⟨b20, 0, none⟩))] #[])] : List (Value)) := Row.made ([(.func (.func 30) #[(.pointer (some ⟨b20, 0, none⟩))] #[]), (.func (.func 31) #[(.pointer (some ⟨b20, 0, none⟩))] #[]), (.func (.func 32) #[(.pointer (some ⟨b20, 0, none⟩))] #[]), (.func (.func 33) #[(.pointer (some ⟨b20, 0, none⟩))] #[])] : List (Value)) hN30 g_b28 rfl rfl (by first | decide | (simp; done))
  refine zJ (zE (zA (zF (zF (zD (zI (K11 (L_len 58 72 (l6).length q2 rfl Tryz.underlying58 (r_q2.rd).len) (zI (zE (zA (yP ?_)))))))))))
  have hl := hx7
  have hll := lines_len hl
  have htl := told_len s
  refine W_loop (fun m s0 w0 => ∃ (i : Nat) (am : List SpI) (lm : List SpI) (mm : List SpI) (v_cb11_0 : Value) (v_cb15_0 : Value) (v_x30_2 : Value), (m = l6.length - i) ∧ (s0.ds = []) ∧ (s0.f 0 = (S f)) ∧ (s0.f 8 = (.pointer (some ⟨b23, 0, none⟩))) ∧ (s0.f 9 = (.slice (some ⟨b28, 0, none⟩) 4 4)) ∧ (s0.f 40 = q2) ∧ (s0.f 41 = (.int .i64 (((l6).length : Nat) : Int))) ∧ (s0.f 42 = (.int .i64 ((i : Nat) : Int))) ∧ (NRow 9 w0 w.heap.size 72 5 encLine q2 l6) ∧ (Row w0 w.heap.size 67 1 encVal (.slice (some ⟨b28, 0, none⟩) 4 4) ([(.func (.func 30) #[(.pointer (some ⟨b20, 0, none⟩))] #[]), (.func (.func 31) #[(.pointer (some ⟨b20, 0, none⟩))] #[]), (.func (.func 32) #[(.pointer (some ⟨b20, 0, none⟩))] #[]), (.func (.func 33) #[(.pointer (some ⟨b20, 0, none⟩))] #[])] : List (Value))) ∧ (Row w0 w.heap.size 126 3 encSpanC v_cb11_0 am) ∧ (Row w0 w.heap.size 131 3 encSpanI v_cb15_0 lm) ∧ (Row w0 w.heap.size 45 3 encSpanC v_x30_2 mm) ∧ (w0.heap[cb11]? = some (.cells [v_cb11_0, (.bool true)].toArray 115 (0, 0))) ∧ (w0.heap[cb15]? = some (.cells [v_cb15_0, (.bool true)].toArray 118 (0, 0))) ∧ (w0.heap[cb19]? = some (.cells [(.slice none 0 0), (.bool true)].toArray 115 (0, 0))) ∧ (w0.heap[b20]? = some (.cells [(.pointer (some ⟨cb11, 0, none⟩)), (.pointer (some ⟨cb15, 0, none⟩)), v_x30_2, (.pointer (some ⟨cb19, 0, none⟩))].toArray 66 (0, 0))) ∧ (w0.heap[b23]? = some (.cells [(.pointer (some ⟨b20, 0, none⟩))].toArray 23 (0, 0))) ∧ (Below w.heap.size w w0) ∧ (w.heap.size ≤ w0.heap.size) ∧ (i ≤ l6.length) ∧ (invC s l6 i (am, lm, mm)) ∧ (MapOk eqI am) ∧ (MapOk eqI lm) ∧ (mm.length ≤ i) ∧ (rngC mm)) _ ⟨0, [], [], [], (.slice none 0 0), (.slice none 0 0), (.slice none 0 0), rfl, by kernel_rfl, by kernel_rfl, by kernel_rfl, by kernel_rfl, by kernel_rfl, by kernel_rfl, by kernel_rfl, r_q2, r_b28, Row.nil _ _ _ _ _, Row.nil _ _ _ _ _, Row.nil _ _ _ _ _, o_cb11, o_cb15, o_cb19, o_x30, o_x8, hb, hs, (Nat.zero_le _), (invC_zero (by first | assumption | exact cls_ok1 hok) hl), MapOk.nil, MapOk.nil, (Nat.le_refl _), rng_nil⟩ ?_
  rintro m31 s32 w33 ⟨i, am, lm, mm, v_cb11_0, v_cb15_0, v_x30_2, hm, hds, f_0, f_8, f_9, f_40, f_41, f_42, r_q2, r_b28, r_cb11_0, r_cb15_0, r_x30_2, o_cb11, o_cb15, o_cb19, o_x30, o_x8, hb, hs, i1, i3, oa, ol, i4, om⟩
  refine yK 0 _ f_0 (yK 8 _ f_8 (yK 9 _ f_9 (yK 40 _ f_40 (yK 41 _ f_41 (yK 42 _ f_42 ?_)))))
  clear f_0 f_8 f_9 f_40 f_41 f_42
  have hal := oa.rise.len
  have hbl := ol.rise.len
  refine zF (zD (K22 (yD .i64 ((i : Nat) : Int) (((l6).length : Nat) : Int) (i < (l6).length) rfl (cmpN_lt i ((l6).length))) ?_ ?_))
  ·intro h34
   replace h34 : i < (l6).length := by omega
   refine zE (zA (zF (K11 zS (zV (zA (zF (yP (zF (zD ?_)))))))))
   have hz := yT l6 i (by omega); obtain ⟨x35, hx36⟩ := hz
   have hz := (r_q2.rd).at (k := 5) (fun _ => rfl) hx36
   obtain ⟨g37, off38, hl39, hc40⟩ := hz
   have hff_x35 := scan_ok (by omega) hl hx36
   have hkd_x35 := line_kind hl hx36
   refine K21 (xE (k := .i64) q2 i _ g37 off38 el58 hl39 (by omega)) ?_
   have r_in42 : Row w33 w.heap.size 9 1 encStr (LineV.v x35) (LineV.fs x35) := r_q2.inner (List.mem_of_getElem? hx36)
   refine K32 (yH g37 (off38 + i * 5) [(.int .i64 x35.1), (.int .u8 x35.2.1), (S x35.2.2.1), (LineV.v x35), (S x35.2.2.2.2)]) hc40 (K21 (yW (fun b => .pointer (some ⟨b, 0, none⟩)) (.cells [(.int .i64 0), (.int .u8 0), (S ([] : List UInt8)), (.slice none 0 0), (S ([] : List UInt8))].toArray 72 (0, 0))) ?_)
   intro b43 w44 hN45
   have g_x11 : w.heap.size ≤ b43 := by rw [hN45.num]; exact hs
   have nb_o_x11_r_q2 := r_q2.new_ne hN45
   replace hb := hb.trans (hN45.below.mono hs)
   replace hs := Nat.le_trans hs (hN45.below.size)
   replace o_cb11 := zB o_cb11 hN45.below
   replace o_cb15 := zB o_cb15 hN45.below
   replace o_cb19 := zB o_cb19 hN45.below
   replace o_x30 := zB o_x30 hN45.below
   replace o_x8 := zB o_x8 hN45.below
   replace r_q2 := r_q2.below hN45.below
   replace r_b28 := r_b28.below hN45.below
   replace r_cb11_0 := r_cb11_0.below hN45.below
   replace r_cb15_0 := r_cb15_0.below hN45.below
   replace r_x30_2 := r_x30_2.below hN45.below
   replace r_in42 := r_in42.below hN45.below
   have o_x11 := hN45.here
   refine K26 (yX b43 0 [(.int .i64 x35.1), (.int .u8 x35.2.1), (S x35.2.2.1), (LineV.v x35), (S x35.2.2.2.2)] [(.int .i64 0), (.int .u8 0), (S ([] : List UInt8)), (.slice none 0 0), (S ([] : List UInt8))] [(.int .i64 x35.1), (.int .u8 x35.2.1), (S x35.2.2.1), (LineV.v x35), (S x35.2.2.2.2)] 72) (allc rfl (allc rfl (allc rfl (allc r_in42.one (allc rfl rfl))))) (by kernel_rfl) o_x11 (by kernel_rfl) rfl ?_
   intro w46 hW47
   replace hb := hb.trans (hW47.below g_x11)
   replace hs := Nat.le_trans hs (Nat.le_of_eq hW47.size.symm)
   replace o_cb11 := zL o_cb11 hW47 (zT o_cb11 o_x11 (by simp))
   replace o_cb15 := zL o_cb15 hW47 (zT o_cb15 o_x11 (by simp))
   replace o_cb19 := zL o_cb19 hW47 (zT o_cb19 o_x11 (by simp))
   replace o_x30 := zL o_x30 hW47 (zT o_x30 o_x11 (by simp))
   replace o_x8 := zL o_x8 hW47 (zT o_x8 o_x11 (by simp))
   replace r_q2 := r_q2.wrote hW47 nb_o_x11_r_q2
   replace r_b28 := r_b28.wrote hW47 (r_b28.ne o_x11 (by simp))
   replace r_cb11_0 := r_cb11_0.wrote hW47 (r_cb11_0.ne o_x11 (by simp))
   replace r_cb15_0 := r_cb15_0.wrote hW47 (r_cb15_0.ne o_x11 (by simp))
   replace r_x30_2 := r_x30_2.wrote hW47 (r_x30_2.ne o_x11 (by simp))
   replace r_in42 := r_in42.wrote hW47 (r_in42.ne o_x11 (by simp))
   replace o_x11 := hW47.here
   refine zE (zA (zF (W_pre 6 8 2 (by kernel_rfl) (by kernel_rfl) (by kernel_rfl) (by kernel_rfl) (by kernel_rfl) (by kernel_rfl) (by kernel_rfl) (yI (yS (.pointer (some ⟨b43, 1, none⟩)) (fun _ => by kernel_rfl) (K13 (yY b43 1 (.int .u8 x35.2.1)) (fun _ => by kernel_rfl) (zM o_x11 rfl) ?_))))))
   have hz := yT ([(.func (.func 30) #[(.pointer (some ⟨b20, 0, none⟩))] #[]), (.func (.func 31) #[(.pointer (some ⟨b20, 0, none⟩))] #[]), (.func (.func 32) #[(.pointer (some ⟨b20, 0, none⟩))] #[]), (.func (.func 33) #[(.pointer (some ⟨b20, 0, none⟩))] #[])] : List (Value)) x35.2.1.toNat (by (simp only [List.length_cons, List.length_nil]; omega)); obtain ⟨x48, hx49⟩ := hz
   have hz := (r_b28.rd).at (k := 1) (fun _ => rfl) hx49
   obtain ⟨g50, off51, hl52, hc53⟩ := hz
   refine K21 (Lq_ixaddrZ (k := .u8) (.slice (some ⟨b28, 0, none⟩) 4 4) x35.2.1 x35.2.1.toNat _ g50 off51 (by omega) el68 hl52 (by (simp only [List.length_cons, List.length_nil]; omega))) ?_
   have hz := pick4 hx49
   rcases hz with ⟨hk54, he55⟩ | ⟨hk54, he55⟩ | ⟨hk54, he55⟩ | ⟨hk54, he55⟩
   ·subst he55
    have hkd : x35.2.1 = 0 := by omega
    refine K13 (yY g50 (off51 + x35.2.1.toNat * 1) (.func (.func 30) #[(.pointer (some ⟨b20, 0, none⟩))] #[])) (fun _ => by kernel_rfl) (hc53 0 _ rfl) (K14 (Lq_loadA b43 0 [(.int .i64 x35.1), (.int .u8 x35.2.1), (S x35.2.2.1), (LineV.v x35), (S x35.2.2.2.2)]) (fun _ => by kernel_rfl) (fun _ => by kernel_rfl) (K10 (yN o_x11 0)) (xF ?_))
    intro w56 hB57
    replace hb := hb.trans (hB57.mono hs)
    replace hs := Nat.le_trans hs (hB57.size)
    replace o_cb11 := zB o_cb11 hB57
    replace o_cb15 := zB o_cb15 hB57
    replace o_cb19 := zB o_cb19 hB57
    replace o_x30 := zB o_x30 hB57
    replace o_x8 := zB o_x8 hB57
    replace r_q2 := r_q2.below hB57
    replace r_b28 := r_b28.below hB57
    replace r_cb11_0 := r_cb11_0.below hB57
    replace r_cb15_0 := r_cb15_0.below hB57
    replace r_x30_2 := r_x30_2.below hB57
    refine K11 (yJ 6) ?_
    refine yZ 6 rfl ?_ rfl
    refine K21 (L_inline 30 [(.pointer (some ⟨b20, 0, none⟩)), (Value.agg #[(.int .i64 x35.1), (.int .u8 x35.2.1), (S x35.2.2.1), (LineV.v x35), (S x35.2.2.2.2)])]) ?_
    refine K11 (enter (args := [(.pointer (some ⟨b20, 0, none⟩)), (Value.agg #[(.int .i64 x35.1), (.int .u8 x35.2.1), (S x35.2.2.1), (LineV.v x35), (S x35.2.2.2.2)])]) Tryz.func30 rfl (by kernel_rfl : _ = 5)) ?_
    refine zF (zD (K21 (yW (fun b => .pointer (some ⟨b, 0, none⟩)) (.cells [(.int .i64 x35.1), (.int .u8 x35.2.1), (S x35.2.2.1), (LineV.v x35), (S x35.2.2.2.2)].toArray 72 (0, 0))) ?_))
    intro b58 w59 hN60
    have g_xi1_3 : w.heap.size ≤ b58 := by rw [hN60.num]; exact hs
    have nb_o_xi1_3_r_q2 := r_q2.new_ne hN60
    replace hb := hb.trans (hN60.below.mono hs)
    replace hs := Nat.le_trans hs (hN60.below.size)
    replace o_cb11 := zB o_cb11 hN60.below
    replace o_cb15 := zB o_cb15 hN60.below
    replace o_cb19 := zB o_cb19 hN60.below
    replace o_x30 := zB o_x30 hN60.below
    replace o_x8 := zB o_x8 hN60.below
    replace r_q2 := r_q2.below hN60.below
    replace r_b28 := r_b28.below hN60.below
    replace r_cb11_0 := r_cb11_0.below hN60.below
    replace r_cb15_0 := r_cb15_0.below hN60.below
    replace r_x30_2 := r_x30_2.below hN60.below
    refine zJ (zE (zA (zF (zD (zJ (zE (zA (zX ?_))))))))
    refine zO [.tmp 4] [(.int .i64 0)] rfl rfl ⟨by kernel_rfl, trivial⟩ ?_
    show L _ _ _ _ _ _ (Fm.put _ _ (.int .i64 0)) _
    refine zE ?_
    refine ⟨rfl, ?_⟩
    refine K44 (yE 7 (.int .i64 0) rfl) (zC (zG (zC (zC (zG (zC zK)))))) (by kernel_rfl) (fun _ => by kernel_rfl) ?_
    refine K11 yQ ?_
    refine zA (zF (zD (zI (K21 (zQ (.bool false)) (zE (zA (K11 zN (zV (zP (zA (zD (K21 (xD i 1 (by omega)) (zI (zE ?_))))))))))))))
    refine zA ⟨_, ?_, (i + 1), am, lm, mm, v_cb11_0, v_cb15_0, v_x30_2, rfl, hds, by kernel_rfl, by kernel_rfl, by kernel_rfl, by kernel_rfl, by kernel_rfl, by kernel_rfl, r_q2, r_b28, r_cb11_0, r_cb15_0, r_x30_2, o_cb11, o_cb15, o_cb19, o_x30, o_x8, hb, hs, ?_, ?_, ?_, ?_, ?_, ?_⟩
    ·omega
    ·omega
    ·exact invC_on i3 (by assumption) (st_blank (by assumption))
    ·exact oa
    ·exact ol
    ·omega
    ·first | exact om | exact rng_snoc om _ _ _
   ·subst he55
    have hkd : x35.2.1 = 1 := by omega
    refine K13 (yY g50 (off51 + x35.2.1.toNat * 1) (.func (.func 31) #[(.pointer (some ⟨b20, 0, none⟩))] #[])) (fun _ => by kernel_rfl) (hc53 0 _ rfl) (K14 (Lq_loadA b43 0 [(.int .i64 x35.1), (.int .u8 x35.2.1), (S x35.2.2.1), (LineV.v x35), (S x35.2.2.2.2)]) (fun _ => by kernel_rfl) (fun _ => by kernel_rfl) (K10 (yN o_x11 0)) (xF ?_))
    intro w61 hB62
    replace hb := hb.trans (hB62.mono hs)
    replace hs := Nat.le_trans hs (hB62.size)
    replace o_cb11 := zB o_cb11 hB62
    replace o_cb15 := zB o_cb15 hB62
    replace o_cb19 := zB o_cb19 hB62
    replace o_x30 := zB o_x30 hB62
    replace o_x8 := zB o_x8 hB62
    replace o_x11 := zB o_x11 hB62
    replace r_q2 := r_q2.below hB62
    replace r_b28 := r_b28.below hB62
    replace r_cb11_0 := r_cb11_0.below hB62
    replace r_cb15_0 := r_cb15_0.below hB62
    replace r_x30_2 := r_x30_2.below hB62
    replace r_in42 := r_in42.below hB62
    refine K11 (yJ 6) ?_
    refine yZ 6 rfl ?_ rfl
    refine K21 (L_inline 31 [(.pointer (some ⟨b20, 0, none⟩)), (Value.agg #[(.int .i64 x35.1), (.int .u8 x35.2.1), (S x35.2.2.1), (LineV.v x35), (S x35.2.2.2.2)])]) ?_
    refine K11 (enter (args := [(.pointer (some ⟨b20, 0, none⟩)), (Value.agg #[(.int .i64 x35.1), (.int .u8 x35.2.1), (S x35.2.2.1), (LineV.v x35), (S x35.2.2.2.2)])]) Tryz.func31 rfl (by kernel_rfl : _ = 36)) ?_
    refine zF (zD (K21 (yW (fun b => .pointer (some ⟨b, 0, none⟩)) (.cells [(.int .i64 x35.1), (.int .u8 x35.2.1), (S x35.2.2.1), (LineV.v x35), (S x35.2.2.2.2)].toArray 72 (0, 0))) ?_))
    intro b63 w64 hN65
    have g_xi2_3 : w.heap.size ≤ b63 := by rw [hN65.num]; exact hs
    have nb_o_xi2_3_r_q2 := r_q2.new_ne hN65
    replace hb := hb.trans (hN65.below.mono hs)
    replace hs := Nat.le_trans hs (hN65.below.size)
    replace o_cb11 := zB o_cb11 hN65.below
    replace o_cb15 := zB o_cb15 hN65.below
    replace o_cb19 := zB o_cb19 hN65.below
    replace o_x30 := zB o_x30 hN65.below
    replace o_x8 := zB o_x8 hN65.below
    replace o_x11 := zB o_x11 hN65.below
    replace r_q2 := r_q2.below hN65.below
    replace r_b28 := r_b28.below hN65.below
    replace r_cb11_0 := r_cb11_0.below hN65.below
    replace r_cb15_0 := r_cb15_0.below hN65.below
    replace r_x30_2 := r_x30_2.below hN65.below
    replace r_in42 := r_in42.below hN65.below
    have o_xi2_3 := hN65.here
    refine zJ (zE (zA (zF (zD (K32 (yH b63 0 [(.int .i64 x35.1), (.int .u8 x35.2.1), (S x35.2.2.1), (LineV.v x35), (S x35.2.2.2.2)]) (K10 (yN o_xi2_3 0)) (K22 (yA 60 [(Value.agg #[(.int .i64 x35.1), (.int .u8 x35.2.1), (S x35.2.2.1), (LineV.v x35), (S x35.2.2.2.2)]), (.int .i64 70)]) (c_classes_told x35.1 x35.2.1 x35.2.2.1 (LineV.v x35) (LineV.fs x35) x35.2.2.2.2 70 _ r_in42.rd (gcell_below hml hb) (by exact (by assumption : _ ∧ _ ∧ _).1) (by exact (by assumption : _ ∧ _ ∧ _).2.2)) ?_))))))
    rintro _ w66 ⟨rfl, hB67⟩
    replace hb := hb.trans (hB67.mono hs)
    replace hs := Nat.le_trans hs (hB67.size)
    replace o_cb11 := zB o_cb11 hB67
    replace o_cb15 := zB o_cb15 hB67
    replace o_cb19 := zB o_cb19 hB67
    replace o_x30 := zB o_x30 hB67
    replace o_x8 := zB o_x8 hB67
    replace o_x11 := zB o_x11 hB67
    replace o_xi2_3 := zB o_xi2_3 hB67
    replace r_q2 := r_q2.below hB67
    replace r_b28 := r_b28.below hB67
    replace r_cb11_0 := r_cb11_0.below hB67
    replace r_cb15_0 := r_cb15_0.below hB67
    replace r_x30_2 := r_x30_2.below hB67
    have := tc_rng (LineV.fs x35) 70
    refine zI (K21 (zQ (Value.agg #[(.int .i32 ((toldC (LineV.fs x35) 70).1)), (.int .i32 ((toldC (LineV.fs x35) 70).2.1))])) (K21 (zQ (.int .u8 ((toldC (LineV.fs x35) 70).2.2.1))) (K21 (zQ (.int .i64 ((toldC (LineV.fs x35) 70).2.2.2))) (K21 (yW (fun b => .pointer (some ⟨b, 0, none⟩)) (.cells [(.int .i32 0), (.int .i32 0)].toArray 32 (0, 0))) ?_))))
    intro b69 w70 hN71
    have g_xi2_5 : w.heap.size ≤ b69 := by rw [hN71.num]; exact hs
    replace hb := hb.trans (hN71.below.mono hs)
    replace hs := Nat.le_trans hs (hN71.below.size)
    replace o_cb11 := zB o_cb11 hN71.below
    replace o_cb15 := zB o_cb15 hN71.below
    replace o_cb19 := zB o_cb19 hN71.below
    replace o_x30 := zB o_x30 hN71.below
    replace o_x8 := zB o_x8 hN71.below
    replace o_x11 := zB o_x11 hN71.below
    replace o_xi2_3 := zB o_xi2_3 hN71.below
    replace r_q2 := r_q2.below hN71.below
    replace r_b28 := r_b28.below hN71.below
    replace r_cb11_0 := r_cb11_0.below hN71.below
    replace r_cb15_0 := r_cb15_0.below hN71.below
    replace r_x30_2 := r_x30_2.below hN71.below
    have o_xi2_5 := hN71.here
    refine K26 (yX b69 0 [(.int .i32 ((toldC (LineV.fs x35) 70).1)), (.int .i32 ((toldC (LineV.fs x35) 70).2.1))] [(.int .i32 0), (.int .i32 0)] [(.int .i32 ((toldC (LineV.fs x35) 70).1)), (.int .i32 ((toldC (LineV.fs x35) 70).2.1))] 32) rfl (by kernel_rfl) o_xi2_5 (by kernel_rfl) rfl ?_
    intro w72 hW73
    replace hb := hb.trans (hW73.below g_xi2_5)
    replace hs := Nat.le_trans hs (Nat.le_of_eq hW73.size.symm)
    replace o_cb11 := zL o_cb11 hW73 (zT o_cb11 o_xi2_5 (by simp))
    replace o_cb15 := zL o_cb15 hW73 (zT o_cb15 o_xi2_5 (by simp))
    replace o_cb19 := zL o_cb19 hW73 (zT o_cb19 o_xi2_5 (by simp))
    replace o_x30 := zL o_x30 hW73 (zT o_x30 o_xi2_5 (by simp))
    replace o_x8 := zL o_x8 hW73 (zT o_x8 o_xi2_5 (by simp))
    replace o_x11 := zL o_x11 hW73 (zT o_x11 o_xi2_5 (by simp))
    replace o_xi2_3 := zL o_xi2_3 hW73 (zT o_xi2_3 o_xi2_5 (by simp))
    replace r_q2 := r_q2.wrote hW73 (r_q2.ne o_xi2_5 (by simp))
    replace r_b28 := r_b28.wrote hW73 (r_b28.ne o_xi2_5 (by simp))
    replace r_cb11_0 := r_cb11_0.wrote hW73 (r_cb11_0.ne o_xi2_5 (by simp))
    replace r_cb15_0 := r_cb15_0.wrote hW73 (r_cb15_0.ne o_xi2_5 (by simp))
    replace r_x30_2 := r_x30_2.wrote hW73 (r_x30_2.ne o_xi2_5 (by simp))
    replace o_xi2_5 := hW73.here
    refine zJ (zJ (zE (zA (zF (zF (zD (zI (K22 (yD .i64 ((toldC (LineV.fs x35) 70).2.2.2) 0 ((toldC (LineV.fs x35) 70).2.2.2 ≠ 0) rfl (cmp_ne ((toldC (LineV.fs x35) 70).2.2.2) 0)) ?_ ?_))))))))
    ·intro h74
     replace h74 : (toldC (LineV.fs x35) 70).2.2.2 ≠ 0 := by omega
     refine zE (zA (K11 zS (zF (zD (zI (zJ (zE (zA (zX (zH ?_))))))))))
     refine zO [.tmp 4] [(.int .i64 ((toldC (LineV.fs x35) 70).2.2.2))] rfl rfl ⟨by kernel_rfl, trivial⟩ ?_
     show L _ _ _ _ _ _ (Fm.put _ _ (.int .i64 ((toldC (LineV.fs x35) 70).2.2.2))) _
     refine zE ?_
     refine ⟨rfl, ?_⟩
     refine K44 (yE 7 (.int .i64 ((toldC (LineV.fs x35) 70).2.2.2)) rfl) (zC (zG (zC (zC (zG (zC zK)))))) (by kernel_rfl) (fun _ => by kernel_rfl) ?_
     refine K11 yQ ?_
     refine zA (zF (zD (zI (K22 (yD .i64 ((toldC (LineV.fs x35) 70).2.2.2) 0 ((toldC (LineV.fs x35) 70).2.2.2 ≠ 0) rfl (cmp_ne ((toldC (LineV.fs x35) 70).2.2.2) 0)) ?_ ?_))))
     ·intro h75
      replace h75 : (toldC (LineV.fs x35) 70).2.2.2 ≠ 0 := by omega
      refine zE (zA (K11 zS (zF (K31 (W_draws 9) ?_))))
      intro w76 hB77
      replace hb := hb.trans (hB77.mono hs)
      replace hs := Nat.le_trans hs (hB77.size)
      replace o_x11 := zB o_x11 hB77
      refine K44 (yE 0 (S f) rfl) (zC (zG (zC (zC (zG (zC zK)))))) (by kernel_rfl) (fun _ => by kernel_rfl) ?_
      refine K44 (yE 1 (.pointer (some ⟨b43, 0, none⟩)) rfl) (zC (zG (zC (zC (zG (zC zK)))))) (by kernel_rfl) (fun _ => by kernel_rfl) ?_
      refine K44 (yE 3 (.int .i64 ((toldC (LineV.fs x35) 70).2.2.2)) rfl) (zC (zG (zC (zC (zG (zC zK)))))) (by kernel_rfl) (fun _ => by kernel_rfl) ?_
      refine K44 (yE 7 (.pointer none) rfl) (zC (zG (zC (zC (zG (zC zK)))))) (by kernel_rfl) (fun _ => by kernel_rfl) ?_
      refine K11 (yJ 2) ?_
      refine yZ 2 rfl ?_ rfl
      refine K22 (zZ b43 0 (.int .i64 x35.1)) (zM o_x11 rfl) (zE ?_)
      refine ⟨rfl, ?_⟩
      refine K44 (yE 4 (Value.agg #[(S f), (.int .i64 x35.1), (.int .i64 ((toldC (LineV.fs x35) 70).2.2.2))]) rfl) (zC (zG (zC (zC (zG (zC zK)))))) (by kernel_rfl) (fun _ => by kernel_rfl) ?_
      refine K11 (yJ 5) ?_
      refine yZ 5 rfl ?_ rfl
      refine K21 (yW (fun b => .pointer (some ⟨b, 0, none⟩)) (.cells [(S f), (.int .i64 x35.1), (.int .i64 ((toldC (LineV.fs x35) 70).2.2.2))].toArray 75 (0, 0))) ?_
      intro b78 w79 hN80
      have g_x60 : w.heap.size ≤ b78 := by rw [hN80.num]; exact hs
      replace hb := hb.trans (hN80.below.mono hs)
      replace hs := Nat.le_trans hs (hN80.below.size)
      refine zE ?_
      refine ⟨rfl, ?_⟩
      refine K44 (yE 6 (.iface 73 (.pointer (some ⟨b78, 0, none⟩))) rfl) (zC (zG (zC (zC (zG (zC zK)))))) (by kernel_rfl) (fun _ => by kernel_rfl) ?_
      refine K44 (yE 8 (.iface 73 (.pointer (some ⟨b78, 0, none⟩))) rfl) (zC (zG (zC (zC (zG (zC zK)))))) (by kernel_rfl) (fun _ => by kernel_rfl) ?_
      refine K11 yQ ?_
      refine zA (zX (zU (zH (zH (zU (zH (end_retM (ds := []) hds ?_)))))))
      refine Lv_nil [.tmp 4, .tmp 5] [(.pointer none), (.iface 73 (.pointer (some ⟨b78, 0, none⟩)))] rfl ⟨by kernel_rfl, by kernel_rfl, trivial⟩ ?_
      exfalso; first | exact xQ hok (cb_data1 i3 (by assumption) (by assumption) (by assumption)) (by first | assumption | decide) | exact xQ hok (cb_data2 i3 (by assumption) (by assumption) (by assumption) (by assumption)) (by first | assumption | decide) | exact xQ hok (cb_data3 i3 (by assumption) (by assumption) (by assumption) (by assumption) (by assumption)) (by first | assumption | decide) | exact xQ hok (cb_order i3 (by assumption) (by assumption)) (by first | assumption | decide) | exact xQ hok (cb_miss i3 (by assumption) (by assumption) (by assumption)) (by first | assumption | decide)
     ·intro h81
      replace h81 : (toldC (LineV.fs x35) 70).2.2.2 = 0 := by omega
      exact absurd h81 h74
    ·intro h82
     replace h82 : (toldC (LineV.fs x35) 70).2.2.2 = 0 := by omega
     refine zE (zA (K11 zN (zV (zA (zF (zF (W_pre 7 9 2 (by kernel_rfl) (by kernel_rfl) (by kernel_rfl) (by kernel_rfl) (by kernel_rfl) (by kernel_rfl) (by kernel_rfl) (yI (yS (.pointer (some ⟨b20, 0, none⟩)) (fun _ => by kernel_rfl) (yS (.pointer (some ⟨b20, 1, none⟩)) (fun _ => by kernel_rfl) (K13 (yY b20 1 (.pointer (some ⟨cb15, 0, none⟩))) (fun _ => by kernel_rfl) (zM o_x30 rfl) (K14 (Lq_loadA b69 0 [(.int .i32 ((toldC (LineV.fs x35) 70).1)), (.int .i32 ((toldC (LineV.fs x35) 70).2.1))]) (fun _ => by kernel_rfl) (fun _ => by kernel_rfl) (K10 (yN o_xi2_5 0)) (yS (.pointer (some ⟨b63, 0, none⟩)) (fun _ => by kernel_rfl) (K13 (yY b63 0 (.int .i64 x35.1)) (fun _ => by kernel_rfl) (zM o_xi2_3 rfl) (xF ?_)))))))))))))))
     intro w83 hB84
     replace hb := hb.trans (hB84.mono hs)
     replace hs := Nat.le_trans hs (hB84.size)
     replace o_cb11 := zB o_cb11 hB84
     replace o_cb15 := zB o_cb15 hB84
     replace o_cb19 := zB o_cb19 hB84
     replace o_x30 := zB o_x30 hB84
     replace o_x8 := zB o_x8 hB84
     replace o_x11 := zB o_x11 hB84
     replace o_xi2_5 := zB o_xi2_5 hB84
     replace r_q2 := r_q2.below hB84
     replace r_b28 := r_b28.below hB84
     replace r_cb11_0 := r_cb11_0.below hB84
     replace r_cb15_0 := r_cb15_0.below hB84
     replace r_x30_2 := r_x30_2.below hB84
     refine K11 (yJ 7) ?_
     refine yZ 7 rfl ?_ rfl
     refine K22 (yA 61 [(.pointer (some ⟨cb15, 0, none⟩)), (Value.agg #[(.int .i32 ((toldC (LineV.fs x35) 70).1)), (.int .i32 ((toldC (LineV.fs x35) 70).2.1))]), (.int .i64 x35.1)]) (c_put_I cb15 v_cb15_0 lm ((toldC (LineV.fs x35) 70).1) ((toldC (LineV.fs x35) 70).2.1) x35.1 w.heap.size _ hs o_cb15 g_cb15 r_cb15_0 (by exact ol.rise) (by omega) (by omega)) ?_
     rintro _ w86 ⟨q85, rfl, ho89, r_q85, dm87, hC88⟩
     replace hb := hC88.below hb hs (fun k e => e.elim (fun x => x ▸ g_cb15) (fun x => (World.ownsRow.lt r_cb15_0 k x).1))
     replace hs := Nat.le_trans hs hC88.size
     replace o_cb11 := yL o_cb11 hC88 (zT o_cb11 o_cb15 (by simp)) (r_cb15_0.ne o_cb11 (by simp))
     replace o_cb19 := yL o_cb19 hC88 (zT o_cb19 o_cb15 (by simp)) (r_cb15_0.ne o_cb19 (by simp))
     replace o_x30 := yL o_x30 hC88 (zT o_x30 o_cb15 (by simp)) (r_cb15_0.ne o_x30 (by simp))
     replace o_x8 := yL o_x8 hC88 (zT o_x8 o_cb15 (by simp)) (r_cb15_0.ne o_x8 (by simp))
     replace o_x11 := yL o_x11 hC88 (zT o_x11 o_cb15 (by simp)) (r_cb15_0.ne o_x11 (by simp))
     replace o_xi2_5 := yL o_xi2_5 hC88 (zT o_xi2_5 o_cb15 (by simp)) (r_cb15_0.ne o_xi2_5 (by simp))
     replace r_q2 := NRow.ch_mut r_q2 hC88 (r_q2.ne o_cb15 (by simp)) (r_q2.apart r_cb15_0 (by kernel_rfl))
     replace r_b28 := r_b28.ch_mut hC88 (r_b28.ne o_cb15 (by simp)) (r_b28.apart r_cb15_0 (by kernel_rfl))
     replace r_cb11_0 := r_cb11_0.ch_mut hC88 (r_cb11_0.ne o_cb15 (by simp)) (r_cb11_0.apart r_cb15_0 (by kernel_rfl))
     replace r_x30_2 := r_x30_2.ch_mut hC88 (r_x30_2.ne o_cb15 (by simp)) (r_x30_2.apart r_cb15_0 (by kernel_rfl))
     replace o_cb15 := ho89
     refine zE ?_
     refine ⟨rfl, ?_⟩
     refine K44 (yE 8 (.int .i64 (putE lm ((toldC (LineV.fs x35) 70).1) ((toldC (LineV.fs x35) 70).2.1))) rfl) (zC (zC zR)) (by kernel_rfl) (fun _ => by kernel_rfl) ?_
     refine K11 yQ ?_
     refine zA (zF (zD (zI (K22 (yD .i64 (putE lm ((toldC (LineV.fs x35) 70).1) ((toldC (LineV.fs x35) 70).2.1)) 0 ((putE lm ((toldC (LineV.fs x35) 70).1) ((toldC (LineV.fs x35) 70).2.1)) ≠ 0) rfl (cmp_ne (putE lm ((toldC (LineV.fs x35) 70).1) ((toldC (LineV.fs x35) 70).2.1)) 0)) ?_ ?_))))
     ·intro h90
      replace h90 : (putE lm ((toldC (LineV.fs x35) 70).1) ((toldC (LineV.fs x35) 70).2.1)) ≠ 0 := by omega
      refine zE (zA (K11 zS (zF (zD (zI (zJ (zE (zA (zX (zH ?_))))))))))
      refine zO [.tmp 4] [(.int .i64 (putE lm ((toldC (LineV.fs x35) 70).1) ((toldC (LineV.fs x35) 70).2.1)))] rfl rfl ⟨by kernel_rfl, trivial⟩ ?_
      show L _ _ _ _ _ _ (Fm.put _ _ (.int .i64 (putE lm ((toldC (LineV.fs x35) 70).1) ((toldC (LineV.fs x35) 70).2.1)))) _
      refine zE ?_
      refine ⟨rfl, ?_⟩
      refine K44 (yE 7 (.int .i64 (putE lm ((toldC (LineV.fs x35) 70).1) ((toldC (LineV.fs x35) 70).2.1))) rfl) (zC (zG (zC (zC (zG (zC zK)))))) (by kernel_rfl) (fun _ => by kernel_rfl) ?_
      refine K11 yQ ?_
      refine zA (zF (zD (zI (K22 (yD .i64 (putE lm ((toldC (LineV.fs x35) 70).1) ((toldC (LineV.fs x35) 70).2.1)) 0 ((putE lm ((toldC (LineV.fs x35) 70).1) ((toldC (LineV.fs x35) 70).2.1)) ≠ 0) rfl (cmp_ne (putE lm ((toldC (LineV.fs x35) 70).1) ((toldC (LineV.fs x35) 70).2.1)) 0)) ?_ ?_))))
      ·intro h91
       replace h91 : (putE lm ((toldC (LineV.fs x35) 70).1) ((toldC (LineV.fs x35) 70).2.1)) ≠ 0 := by omega
       refine zE (zA (K11 zS (zF (K31 (W_draws 9) ?_))))
       intro w92 hB93
       replace hb := hb.trans (hB93.mono hs)
       replace hs := Nat.le_trans hs (hB93.size)
       replace o_x11 := zB o_x11 hB93
       refine K44 (yE 0 (S f) rfl) (zC (zG (zC (zC (zG (zC zK)))))) (by kernel_rfl) (fun _ => by kernel_rfl) ?_
       refine K44 (yE 1 (.pointer (some ⟨b43, 0, none⟩)) rfl) (zC (zG (zC (zC (zG (zC zK)))))) (by kernel_rfl) (fun _ => by kernel_rfl) ?_
       refine K44 (yE 3 (.int .i64 (putE lm ((toldC (LineV.fs x35) 70).1) ((toldC (LineV.fs x35) 70).2.1))) rfl) (zC (zG (zC (zC (zG (zC zK)))))) (by kernel_rfl) (fun _ => by kernel_rfl) ?_
       refine K44 (yE 7 (.pointer none) rfl) (zC (zG (zC (zC (zG (zC zK)))))) (by kernel_rfl) (fun _ => by kernel_rfl) ?_
       refine K11 (yJ 2) ?_
       refine yZ 2 rfl ?_ rfl
       refine K22 (zZ b43 0 (.int .i64 x35.1)) (zM o_x11 rfl) (zE ?_)
       refine ⟨rfl, ?_⟩
       refine K44 (yE 4 (Value.agg #[(S f), (.int .i64 x35.1), (.int .i64 (putE lm ((toldC (LineV.fs x35) 70).1) ((toldC (LineV.fs x35) 70).2.1)))]) rfl) (zC (zG (zC (zC (zG (zC zK)))))) (by kernel_rfl) (fun _ => by kernel_rfl) ?_
       refine K11 (yJ 5) ?_
       refine yZ 5 rfl ?_ rfl
       refine K21 (yW (fun b => .pointer (some ⟨b, 0, none⟩)) (.cells [(S f), (.int .i64 x35.1), (.int .i64 (putE lm ((toldC (LineV.fs x35) 70).1) ((toldC (LineV.fs x35) 70).2.1)))].toArray 75 (0, 0))) ?_
       intro b94 w95 hN96
       have g_x60 : w.heap.size ≤ b94 := by rw [hN96.num]; exact hs
       replace hb := hb.trans (hN96.below.mono hs)
       replace hs := Nat.le_trans hs (hN96.below.size)
       refine zE ?_
       refine ⟨rfl, ?_⟩
       refine K44 (yE 6 (.iface 73 (.pointer (some ⟨b94, 0, none⟩))) rfl) (zC (zG (zC (zC (zG (zC zK)))))) (by kernel_rfl) (fun _ => by kernel_rfl) ?_
       refine K44 (yE 8 (.iface 73 (.pointer (some ⟨b94, 0, none⟩))) rfl) (zC (zG (zC (zC (zG (zC zK)))))) (by kernel_rfl) (fun _ => by kernel_rfl) ?_
       refine K11 yQ ?_
       refine zA (zX (zU (zH (zH (zU (zH (end_retM (ds := []) hds ?_)))))))
       refine Lv_nil [.tmp 4, .tmp 5] [(.pointer none), (.iface 73 (.pointer (some ⟨b94, 0, none⟩)))] rfl ⟨by kernel_rfl, by kernel_rfl, trivial⟩ ?_
       exfalso; first | exact xQ hok (cb_data1 i3 (by assumption) (by assumption) (by assumption)) (by first | assumption | decide) | exact xQ hok (cb_data2 i3 (by assumption) (by assumption) (by assumption) (by assumption)) (by first | assumption | decide) | exact xQ hok (cb_data3 i3 (by assumption) (by assumption) (by assumption) (by assumption) (by assumption)) (by first | assumption | decide) | exact xQ hok (cb_order i3 (by assumption) (by assumption)) (by first | assumption | decide) | exact xQ hok (cb_miss i3 (by assumption) (by assumption) (by assumption)) (by first | assumption | decide)
      ·intro h97
       replace h97 : (putE lm ((toldC (LineV.fs x35) 70).1) ((toldC (LineV.fs x35) 70).2.1)) = 0 := by omega
       exact absurd h97 h90
     ·intro h98
      replace h98 : (putE lm ((toldC (LineV.fs x35) 70).1) ((toldC (LineV.fs x35) 70).2.1)) = 0 := by omega
      refine zE (zA (K11 zN (zV (zA (zF (W_pre 6 8 2 (by kernel_rfl) (by kernel_rfl) (by kernel_rfl) (by kernel_rfl) (by kernel_rfl) (by kernel_rfl) (by kernel_rfl) (yI (yS (.pointer (some ⟨b20, 0, none⟩)) (fun _ => by kernel_rfl) (yS (.pointer (some ⟨b20, 0, none⟩)) (fun _ => by kernel_rfl) (K13 (yY b20 0 (.pointer (some ⟨cb11, 0, none⟩))) (fun _ => by kernel_rfl) (zM o_x30 rfl) (K14 (Lq_loadA b69 0 [(.int .i32 ((toldC (LineV.fs x35) 70).1)), (.int .i32 ((toldC (LineV.fs x35) 70).2.1))]) (fun _ => by kernel_rfl) (fun _ => by kernel_rfl) (K10 (yN o_xi2_5 0)) (yI (xF ?_)))))))))))))
      intro w99 hB100
      replace hb := hb.trans (hB100.mono hs)
      replace hs := Nat.le_trans hs (hB100.size)
      replace o_cb11 := zB o_cb11 hB100
      replace o_cb15 := zB o_cb15 hB100
      replace o_cb19 := zB o_cb19 hB100
      replace o_x30 := zB o_x30 hB100
      replace o_x8 := zB o_x8 hB100
      replace o_x11 := zB o_x11 hB100
      replace r_q2 := r_q2.below hB100
      replace r_b28 := r_b28.below hB100
      replace r_cb11_0 := r_cb11_0.below hB100
      replace r_x30_2 := r_x30_2.below hB100
      replace r_q85 := r_q85.below hB100
      refine K11 (yJ 6) ?_
      refine yZ 6 rfl ?_ rfl
      refine K22 (yA 62 [(.pointer (some ⟨cb11, 0, none⟩)), (Value.agg #[(.int .i32 ((toldC (LineV.fs x35) 70).1)), (.int .i32 ((toldC (LineV.fs x35) 70).2.1))]), (.int .u8 ((toldC (LineV.fs x35) 70).2.2.1))]) (c_put_C cb11 v_cb11_0 am ((toldC (LineV.fs x35) 70).1) ((toldC (LineV.fs x35) 70).2.1) ((toldC (LineV.fs x35) 70).2.2.1) w.heap.size _ hs o_cb11 g_cb11 r_cb11_0 (by exact oa.rise) (by omega) (by omega)) ?_
      rintro _ w102 ⟨q101, rfl, ho105, r_q101, dm103, hC104⟩
      replace hb := hC104.below hb hs (fun k e => e.elim (fun x => x ▸ g_cb11) (fun x => (World.ownsRow.lt r_cb11_0 k x).1))
      replace hs := Nat.le_trans hs hC104.size
      replace o_cb15 := yL o_cb15 hC104 (zT o_cb15 o_cb11 (by simp)) (r_cb11_0.ne o_cb15 (by simp))
      replace o_cb19 := yL o_cb19 hC104 ne_cb19_cb11 (r_cb11_0.ne o_cb19 (by simp))
      replace o_x30 := yL o_x30 hC104 (zT o_x30 o_cb11 (by simp)) (r_cb11_0.ne o_x30 (by simp))
      replace o_x8 := yL o_x8 hC104 (zT o_x8 o_cb11 (by simp)) (r_cb11_0.ne o_x8 (by simp))
      replace o_x11 := yL o_x11 hC104 (zT o_x11 o_cb11 (by simp)) (r_cb11_0.ne o_x11 (by simp))
      replace r_q2 := NRow.ch_mut r_q2 hC104 (r_q2.ne o_cb11 (by simp)) (r_q2.apart r_cb11_0 (by kernel_rfl))
      replace r_b28 := r_b28.ch_mut hC104 (r_b28.ne o_cb11 (by simp)) (r_b28.apart r_cb11_0 (by kernel_rfl))
      replace r_x30_2 := r_x30_2.ch_mut hC104 (r_x30_2.ne o_cb11 (by simp)) (r_x30_2.apart r_cb11_0 (by kernel_rfl))
      replace r_q85 := r_q85.ch_mut hC104 (r_q85.ne o_cb11 (by simp)) (r_q85.apart r_cb11_0 (by kernel_rfl))
      replace o_cb11 := ho105
      refine zE ?_
      refine ⟨rfl, ?_⟩
      refine K44 (yE 7 (.int .i64 (putE am ((toldC (LineV.fs x35) 70).1) ((toldC (LineV.fs x35) 70).2.1))) rfl) (zC zR) (by kernel_rfl) (fun _ => by kernel_rfl) ?_
      refine K11 yQ ?_
      refine zA (zX ?_)
      refine zO [.tmp 4] [(.int .i64 (putE am ((toldC (LineV.fs x35) 70).1) ((toldC (LineV.fs x35) 70).2.1)))] rfl rfl ⟨by kernel_rfl, trivial⟩ ?_
      show L _ _ _ _ _ _ (Fm.put _ _ (.int .i64 (putE am ((toldC (LineV.fs x35) 70).1) ((toldC (LineV.fs x35) 70).2.1)))) _
      refine zE ?_
      refine ⟨rfl, ?_⟩
      refine K44 (yE 7 (.int .i64 (putE am ((toldC (LineV.fs x35) 70).1) ((toldC (LineV.fs x35) 70).2.1))) rfl) (zC (zG (zC (zC (zG (zC zK)))))) (by kernel_rfl) (fun _ => by kernel_rfl) ?_
      refine K11 yQ ?_
      refine zA (zF (zD (zI (K22 (yD .i64 (putE am ((toldC (LineV.fs x35) 70).1) ((toldC (LineV.fs x35) 70).2.1)) 0 ((putE am ((toldC (LineV.fs x35) 70).1) ((toldC (LineV.fs x35) 70).2.1)) ≠ 0) rfl (cmp_ne (putE am ((toldC (LineV.fs x35) 70).1) ((toldC (LineV.fs x35) 70).2.1)) 0)) ?_ ?_))))
      ·intro h106
       replace h106 : (putE am ((toldC (LineV.fs x35) 70).1) ((toldC (LineV.fs x35) 70).2.1)) ≠ 0 := by omega
       refine zE (zA (K11 zS (zF (K31 (W_draws 9) ?_))))
       intro w107 hB108
       replace hb := hb.trans (hB108.mono hs)
       replace hs := Nat.le_trans hs (hB108.size)
       replace o_x11 := zB o_x11 hB108
       refine K44 (yE 0 (S f) rfl) (zC (zG (zC (zC (zG (zC zK)))))) (by kernel_rfl) (fun _ => by kernel_rfl) ?_
       refine K44 (yE 1 (.pointer (some ⟨b43, 0, none⟩)) rfl) (zC (zG (zC (zC (zG (zC zK)))))) (by kernel_rfl) (fun _ => by kernel_rfl) ?_
       refine K44 (yE 3 (.int .i64 (putE am ((toldC (LineV.fs x35) 70).1) ((toldC (LineV.fs x35) 70).2.1))) rfl) (zC (zG (zC (zC (zG (zC zK)))))) (by kernel_rfl) (fun _ => by kernel_rfl) ?_
       refine K44 (yE 7 (.pointer none) rfl) (zC (zG (zC (zC (zG (zC zK)))))) (by kernel_rfl) (fun _ => by kernel_rfl) ?_
       refine K11 (yJ 2) ?_
       refine yZ 2 rfl ?_ rfl
       refine K22 (zZ b43 0 (.int .i64 x35.1)) (zM o_x11 rfl) (zE ?_)
       refine ⟨rfl, ?_⟩
       refine K44 (yE 4 (Value.agg #[(S f), (.int .i64 x35.1), (.int .i64 (putE am ((toldC (LineV.fs x35) 70).1) ((toldC (LineV.fs x35) 70).2.1)))]) rfl) (zC (zG (zC (zC (zG (zC zK)))))) (by kernel_rfl) (fun _ => by kernel_rfl) ?_
       refine K11 (yJ 5) ?_
       refine yZ 5 rfl ?_ rfl
       refine K21 (yW (fun b => .pointer (some ⟨b, 0, none⟩)) (.cells [(S f), (.int .i64 x35.1), (.int .i64 (putE am ((toldC (LineV.fs x35) 70).1) ((toldC (LineV.fs x35) 70).2.1)))].toArray 75 (0, 0))) ?_
       intro b109 w110 hN111
       have g_x60 : w.heap.size ≤ b109 := by rw [hN111.num]; exact hs
       replace hb := hb.trans (hN111.below.mono hs)
       replace hs := Nat.le_trans hs (hN111.below.size)
       refine zE ?_
       refine ⟨rfl, ?_⟩
       refine K44 (yE 6 (.iface 73 (.pointer (some ⟨b109, 0, none⟩))) rfl) (zC (zG (zC (zC (zG (zC zK)))))) (by kernel_rfl) (fun _ => by kernel_rfl) ?_
       refine K44 (yE 8 (.iface 73 (.pointer (some ⟨b109, 0, none⟩))) rfl) (zC (zG (zC (zC (zG (zC zK)))))) (by kernel_rfl) (fun _ => by kernel_rfl) ?_
       refine K11 yQ ?_
       refine zA (zX (zU (zH (zH (zU (zH (end_retM (ds := []) hds ?_)))))))
       refine Lv_nil [.tmp 4, .tmp 5] [(.pointer none), (.iface 73 (.pointer (some ⟨b109, 0, none⟩)))] rfl ⟨by kernel_rfl, by kernel_rfl, trivial⟩ ?_
       exfalso; first | exact xQ hok (cb_data1 i3 (by assumption) (by assumption) (by assumption)) (by first | assumption | decide) | exact xQ hok (cb_data2 i3 (by assumption) (by assumption) (by assumption) (by assumption)) (by first | assumption | decide) | exact xQ hok (cb_data3 i3 (by assumption) (by assumption) (by assumption) (by assumption) (by assumption)) (by first | assumption | decide) | exact xQ hok (cb_order i3 (by assumption) (by assumption)) (by first | assumption | decide) | exact xQ hok (cb_miss i3 (by assumption) (by assumption) (by assumption)) (by first | assumption | decide)
      ·intro h112
       replace h112 : (putE am ((toldC (LineV.fs x35) 70).1) ((toldC (LineV.fs x35) 70).2.1)) = 0 := by omega
       refine zE (zA (K11 zN (zV (zP (zA (zD (K21 (xD i 1 (by omega)) (zI (zE ?_)))))))))
       refine zA ⟨_, ?_, (i + 1), (putF eqC am ((toldC (LineV.fs x35) 70).1) ((toldC (LineV.fs x35) 70).2.1) ((toldC (LineV.fs x35) 70).2.2.1)), (putF eqI lm ((toldC (LineV.fs x35) 70).1) ((toldC (LineV.fs x35) 70).2.1) x35.1), mm, q101, q85, v_x30_2, rfl, hds, by kernel_rfl, by kernel_rfl, by kernel_rfl, by kernel_rfl, by kernel_rfl, by kernel_rfl, r_q2, r_b28, r_q101, r_q85, r_x30_2, o_cb11, o_cb15, o_cb19, o_x30, o_x8, hb, hs, ?_, ?_, ?_, ?_, ?_, ?_⟩
       ·omega
       ·omega
       ·exact invC_on i3 (by assumption) (st_data (by assumption) (by assumption) (by assumption) (by assumption))
       ·exact oa.put eqI_law _ _ _
       ·exact ol.put eqI_law _ _ _
       ·omega
       ·first | exact om | exact rng_snoc om _ _ _
   ·subst he55
    have hkd : x35.2.1 = 2 := by omega
    refine K13 (yY g50 (off51 + x35.2.1.toNat * 1) (.func (.func 32) #[(.pointer (some ⟨b20, 0, none⟩))] #[])) (fun _ => by kernel_rfl) (hc53 0 _ rfl) (K14 (Lq_loadA b43 0 [(.int .i64 x35.1), (.int .u8 x35.2.1), (S x35.2.2.1), (LineV.v x35), (S x35.2.2.2.2)]) (fun _ => by kernel_rfl) (fun _ => by kernel_rfl) (K10 (yN o_x11 0)) (xF ?_))
    intro w113 hB114
    replace hb := hb.trans (hB114.mono hs)
    replace hs := Nat.le_trans hs (hB114.size)
    replace o_x11 := zB o_x11 hB114
    replace r_q2 := r_q2.below hB114
    refine K11 (yJ 6) ?_
    refine yZ 6 rfl ?_ rfl
    refine K21 (L_inline 32 [(.pointer (some ⟨b20, 0, none⟩)), (Value.agg #[(.int .i64 x35.1), (.int .u8 x35.2.1), (S x35.2.2.1), (LineV.v x35), (S x35.2.2.2.2)])]) ?_
    refine K11 (enter (args := [(.pointer (some ⟨b20, 0, none⟩)), (Value.agg #[(.int .i64 x35.1), (.int .u8 x35.2.1), (S x35.2.2.1), (LineV.v x35), (S x35.2.2.2.2)])]) Tryz.func32 rfl (by kernel_rfl : _ = 5)) ?_
    refine zF (zD (K21 (yW (fun b => .pointer (some ⟨b, 0, none⟩)) (.cells [(.int .i64 x35.1), (.int .u8 x35.2.1), (S x35.2.2.1), (LineV.v x35), (S x35.2.2.2.2)].toArray 72 (0, 0))) ?_))
    intro b115 w116 hN117
    have g_xi3_3 : w.heap.size ≤ b115 := by rw [hN117.num]; exact hs
    have nb_o_xi3_3_r_q2 := r_q2.new_ne hN117
    replace hb := hb.trans (hN117.below.mono hs)
    replace hs := Nat.le_trans hs (hN117.below.size)
    replace o_x11 := zB o_x11 hN117.below
    refine zJ (zE (zA (zF (zD (zJ (zE (zA (zX ?_))))))))
    refine zO [.tmp 4] [(.int .i64 33)] rfl rfl ⟨by kernel_rfl, trivial⟩ ?_
    show L _ _ _ _ _ _ (Fm.put _ _ (.int .i64 33)) _
    refine zE ?_
    refine ⟨rfl, ?_⟩
    refine K44 (yE 7 (.int .i64 33) rfl) (zC (zG (zC (zC (zG (zC zK)))))) (by kernel_rfl) (fun _ => by kernel_rfl) ?_
    refine K11 yQ ?_
    refine zA (zF (zD (zI (K21 (zQ (.bool true)) (zE (zA (K11 zS (zF (K31 (W_draws 9) ?_)))))))))
    intro w118 hB119
    replace hb := hb.trans (hB119.mono hs)
    replace hs := Nat.le_trans hs (hB119.size)
    replace o_x11 := zB o_x11 hB119
    refine K44 (yE 0 (S f) rfl) (zC (zG (zC (zC (zG (zC zK)))))) (by kernel_rfl) (fun _ => by kernel_rfl) ?_
    refine K44 (yE 1 (.pointer (some ⟨b43, 0, none⟩)) rfl) (zC (zG (zC (zC (zG (zC zK)))))) (by kernel_rfl) (fun _ => by kernel_rfl) ?_
    refine K44 (yE 3 (.int .i64 33) rfl) (zC (zG (zC (zC (zG (zC zK)))))) (by kernel_rfl) (fun _ => by kernel_rfl) ?_
    refine K44 (yE 7 (.pointer none) rfl) (zC (zG (zC (zC (zG (zC zK)))))) (by kernel_rfl) (fun _ => by kernel_rfl) ?_
    refine K11 (yJ 2) ?_
    refine yZ 2 rfl ?_ rfl
    refine K22 (zZ b43 0 (.int .i64 x35.1)) (zM o_x11 rfl) (zE ?_)
    refine ⟨rfl, ?_⟩
    refine K44 (yE 4 (Value.agg #[(S f), (.int .i64 x35.1), (.int .i64 33)]) rfl) (zC (zG (zC (zC (zG (zC zK)))))) (by kernel_rfl) (fun _ => by kernel_rfl) ?_
    refine K11 (yJ 5) ?_
    refine yZ 5 rfl ?_ rfl
    refine K21 (yW (fun b => .pointer (some ⟨b, 0, none⟩)) (.cells [(S f), (.int .i64 x35.1), (.int .i64 33)].toArray 75 (0, 0))) ?_
    intro b120 w121 hN122
    have g_x60 : w.heap.size ≤ b120 := by rw [hN122.num]; exact hs
    replace hb := hb.trans (hN122.below.mono hs)
    replace hs := Nat.le_trans hs (hN122.below.size)
    refine zE ?_
    refine ⟨rfl, ?_⟩
    refine K44 (yE 6 (.iface 73 (.pointer (some ⟨b120, 0, none⟩))) rfl) (zC (zG (zC (zC (zG (zC zK)))))) (by kernel_rfl) (fun _ => by kernel_rfl) ?_
    refine K44 (yE 8 (.iface 73 (.pointer (some ⟨b120, 0, none⟩))) rfl) (zC (zG (zC (zC (zG (zC zK)))))) (by kernel_rfl) (fun _ => by kernel_rfl) ?_
    refine K11 yQ ?_
    refine zA (zX (zU (zH (zH (zU (zH (end_retM (ds := []) hds ?_)))))))
    refine Lv_nil [.tmp 4, .tmp 5] [(.pointer none), (.iface 73 (.pointer (some ⟨b120, 0, none⟩)))] rfl ⟨by kernel_rfl, by kernel_rfl, trivial⟩ ?_
    exfalso; first | exact xQ hok (cb_data1 i3 (by assumption) (by assumption) (by assumption)) (by first | assumption | decide) | exact xQ hok (cb_data2 i3 (by assumption) (by assumption) (by assumption) (by assumption)) (by first | assumption | decide) | exact xQ hok (cb_data3 i3 (by assumption) (by assumption) (by assumption) (by assumption) (by assumption)) (by first | assumption | decide) | exact xQ hok (cb_order i3 (by assumption) (by assumption)) (by first | assumption | decide) | exact xQ hok (cb_miss i3 (by assumption) (by assumption) (by assumption)) (by first | assumption | decide)
   ·subst he55
    have hkd : x35.2.1 = 3 := by omega
    refine K13 (yY g50 (off51 + x35.2.1.toNat * 1) (.func (.func 33) #[(.pointer (some ⟨b20, 0, none⟩))] #[])) (fun _ => by kernel_rfl) (hc53 0 _ rfl) (K14 (Lq_loadA b43 0 [(.int .i64 x35.1), (.int .u8 x35.2.1), (S x35.2.2.1), (LineV.v x35), (S x35.2.2.2.2)]) (fun _ => by kernel_rfl) (fun _ => by kernel_rfl) (K10 (yN o_x11 0)) (xF ?_))
    intro w123 hB124
    replace hb := hb.trans (hB124.mono hs)
    replace hs := Nat.le_trans hs (hB124.size)
    replace o_cb11 := zB o_cb11 hB124
    replace o_cb15 := zB o_cb15 hB124
    replace o_cb19 := zB o_cb19 hB124
    replace o_x30 := zB o_x30 hB124
    replace o_x8 := zB o_x8 hB124
    replace o_x11 := zB o_x11 hB124
    replace r_q2 := r_q2.below hB124
    replace r_b28 := r_b28.below hB124
    replace r_cb11_0 := r_cb11_0.below hB124
    replace r_cb15_0 := r_cb15_0.below hB124
    replace r_x30_2 := r_x30_2.below hB124
    replace r_in42 := r_in42.below hB124
    refine K11 (yJ 6) ?_
    refine yZ 6 rfl ?_ rfl
    refine K21 (L_inline 33 [(.pointer (some ⟨b20, 0, none⟩)), (Value.agg #[(.int .i64 x35.1), (.int .u8 x35.2.1), (S x35.2.2.1), (LineV.v x35), (S x35.2.2.2.2)])]) ?_
    refine K11 (enter (args := [(.pointer (some ⟨b20, 0, none⟩)), (Value.agg #[(.int .i64 x35.1), (.int .u8 x35.2.1), (S x35.2.2.1), (LineV.v x35), (S x35.2.2.2.2)])]) Tryz.func33 rfl (by kernel_rfl : _ = 29)) ?_
    refine zF (zD (K21 (yW (fun b => .pointer (some ⟨b, 0, none⟩)) (.cells [(.int .i64 x35.1), (.int .u8 x35.2.1), (S x35.2.2.1), (LineV.v x35), (S x35.2.2.2.2)].toArray 72 (0, 0))) ?_))
    intro b125 w126 hN127
    have g_xi4_3 : w.heap.size ≤ b125 := by rw [hN127.num]; exact hs
    have nb_o_xi4_3_r_q2 := r_q2.new_ne hN127
    replace hb := hb.trans (hN127.below.mono hs)
    replace hs := Nat.le_trans hs (hN127.below.size)
    replace o_cb11 := zB o_cb11 hN127.below
    replace o_cb15 := zB o_cb15 hN127.below
    replace o_cb19 := zB o_cb19 hN127.below
    replace o_x30 := zB o_x30 hN127.below
    replace o_x8 := zB o_x8 hN127.below
    replace o_x11 := zB o_x11 hN127.below
    replace r_q2 := r_q2.below hN127.below
    replace r_b28 := r_b28.below hN127.below
    replace r_cb11_0 := r_cb11_0.below hN127.below
    replace r_cb15_0 := r_cb15_0.below hN127.below
    replace r_x30_2 := r_x30_2.below hN127.below
    replace r_in42 := r_in42.below hN127.below
    have o_xi4_3 := hN127.here
    refine zJ (zE (zA (zF (zD (K32 (yH b125 0 [(.int .i64 x35.1), (.int .u8 x35.2.1), (S x35.2.2.1), (LineV.v x35), (S x35.2.2.2.2)]) (K10 (yN o_xi4_3 0)) (K22 (yA 60 [(Value.agg #[(.int .i64 x35.1), (.int .u8 x35.2.1), (S x35.2.2.1), (LineV.v x35), (S x35.2.2.2.2)]), (.int .i64 71)]) (c_classes_told x35.1 x35.2.1 x35.2.2.1 (LineV.v x35) (LineV.fs x35) x35.2.2.2.2 71 _ r_in42.rd (gcell_below hml hb) (by exact (by assumption : _ ∧ _ ∧ _).1) (by exact (by assumption : _ ∧ _ ∧ _).2.2)) ?_))))))
    rintro _ w128 ⟨rfl, hB129⟩
    replace hb := hb.trans (hB129.mono hs)
    replace hs := Nat.le_trans hs (hB129.size)
    replace o_cb11 := zB o_cb11 hB129
    replace o_cb15 := zB o_cb15 hB129
    replace o_cb19 := zB o_cb19 hB129
    replace o_x30 := zB o_x30 hB129
    replace o_x8 := zB o_x8 hB129
    replace o_x11 := zB o_x11 hB129
    replace r_q2 := r_q2.below hB129
    replace r_b28 := r_b28.below hB129
    replace r_cb11_0 := r_cb11_0.below hB129
    replace r_cb15_0 := r_cb15_0.below hB129
    replace r_x30_2 := r_x30_2.below hB129
    have := tc_rng (LineV.fs x35) 71
    refine zI (K21 (zQ (Value.agg #[(.int .i32 ((toldC (LineV.fs x35) 71).1)), (.int .i32 ((toldC (LineV.fs x35) 71).2.1))])) (K21 (zQ (.int .u8 ((toldC (LineV.fs x35) 71).2.2.1))) (K21 (zQ (.int .i64 ((toldC (LineV.fs x35) 71).2.2.2))) (K21 (yW (fun b => .pointer (some ⟨b, 0, none⟩)) (.cells [(.int .i32 0), (.int .i32 0)].toArray 32 (0, 0))) ?_))))
    intro b131 w132 hN133
    have g_xi4_5 : w.heap.size ≤ b131 := by rw [hN133.num]; exact hs
    replace hb := hb.trans (hN133.below.mono hs)
    replace hs := Nat.le_trans hs (hN133.below.size)
    replace o_cb11 := zB o_cb11 hN133.below
    replace o_cb15 := zB o_cb15 hN133.below
    replace o_cb19 := zB o_cb19 hN133.below
    replace o_x30 := zB o_x30 hN133.below
    replace o_x8 := zB o_x8 hN133.below
    replace o_x11 := zB o_x11 hN133.below
    replace r_q2 := r_q2.below hN133.below
    replace r_b28 := r_b28.below hN133.below
    replace r_cb11_0 := r_cb11_0.below hN133.below
    replace r_cb15_0 := r_cb15_0.below hN133.below
    replace r_x30_2 := r_x30_2.below hN133.below
    have o_xi4_5 := hN133.here
    refine K26 (yX b131 0 [(.int .i32 ((toldC (LineV.fs x35) 71).1)), (.int .i32 ((toldC (LineV.fs x35) 71).2.1))] [(.int .i32 0), (.int .i32 0)] [(.int .i32 ((toldC (LineV.fs x35) 71).1)), (.int .i32 ((toldC (LineV.fs x35) 71).2.1))] 32) rfl (by kernel_rfl) o_xi4_5 (by kernel_rfl) rfl ?_
    intro w134 hW135
    replace hb := hb.trans (hW135.below g_xi4_5)
    replace hs := Nat.le_trans hs (Nat.le_of_eq hW135.size.symm)
    replace o_cb11 := zL o_cb11 hW135 (zT o_cb11 o_xi4_5 (by simp))
    replace o_cb15 := zL o_cb15 hW135 (zT o_cb15 o_xi4_5 (by simp))
    replace o_cb19 := zL o_cb19 hW135 (zT o_cb19 o_xi4_5 (by simp))
    replace o_x30 := zL o_x30 hW135 (zT o_x30 o_xi4_5 (by simp))
    replace o_x8 := zL o_x8 hW135 (zT o_x8 o_xi4_5 (by simp))
    replace o_x11 := zL o_x11 hW135 (zT o_x11 o_xi4_5 (by simp))
    replace r_q2 := r_q2.wrote hW135 (r_q2.ne o_xi4_5 (by simp))
    replace r_b28 := r_b28.wrote hW135 (r_b28.ne o_xi4_5 (by simp))
    replace r_cb11_0 := r_cb11_0.wrote hW135 (r_cb11_0.ne o_xi4_5 (by simp))
    replace r_cb15_0 := r_cb15_0.wrote hW135 (r_cb15_0.ne o_xi4_5 (by simp))
    replace r_x30_2 := r_x30_2.wrote hW135 (r_x30_2.ne o_xi4_5 (by simp))
    replace o_xi4_5 := hW135.here
    refine zJ (zJ (zE (zA (zF (zF (zD (zI (K22 (yD .i64 ((toldC (LineV.fs x35) 71).2.2.2) 0 ((toldC (LineV.fs x35) 71).2.2.2 ≠ 0) rfl (cmp_ne ((toldC (LineV.fs x35) 71).2.2.2) 0)) ?_ ?_))))))))
    ·intro h136
     replace h136 : (toldC (LineV.fs x35) 71).2.2.2 ≠ 0 := by omega
     refine zE (zA (K11 zS (zF (zD (zI (zJ (zE (zA (zX (zH ?_))))))))))
     refine zO [.tmp 4] [(.int .i64 ((toldC (LineV.fs x35) 71).2.2.2))] rfl rfl ⟨by kernel_rfl, trivial⟩ ?_
     show L _ _ _ _ _ _ (Fm.put _ _ (.int .i64 ((toldC (LineV.fs x35) 71).2.2.2))) _
     refine zE ?_
     refine ⟨rfl, ?_⟩
     refine K44 (yE 7 (.int .i64 ((toldC (LineV.fs x35) 71).2.2.2)) rfl) (zC (zG (zC (zC (zG (zC zK)))))) (by kernel_rfl) (fun _ => by kernel_rfl) ?_
     refine K11 yQ ?_
     refine zA (zF (zD (zI (K22 (yD .i64 ((toldC (LineV.fs x35) 71).2.2.2) 0 ((toldC (LineV.fs x35) 71).2.2.2 ≠ 0) rfl (cmp_ne ((toldC (LineV.fs x35) 71).2.2.2) 0)) ?_ ?_))))
     ·intro h137
      replace h137 : (toldC (LineV.fs x35) 71).2.2.2 ≠ 0 := by omega
      refine zE (zA (K11 zS (zF (K31 (W_draws 9) ?_))))
      intro w138 hB139
      replace hb := hb.trans (hB139.mono hs)
      replace hs := Nat.le_trans hs (hB139.size)
      replace o_x11 := zB o_x11 hB139
      refine K44 (yE 0 (S f) rfl) (zC (zG (zC (zC (zG (zC zK)))))) (by kernel_rfl) (fun _ => by kernel_rfl) ?_
      refine K44 (yE 1 (.pointer (some ⟨b43, 0, none⟩)) rfl) (zC (zG (zC (zC (zG (zC zK)))))) (by kernel_rfl) (fun _ => by kernel_rfl) ?_
      refine K44 (yE 3 (.int .i64 ((toldC (LineV.fs x35) 71).2.2.2)) rfl) (zC (zG (zC (zC (zG (zC zK)))))) (by kernel_rfl) (fun _ => by kernel_rfl) ?_
      refine K44 (yE 7 (.pointer none) rfl) (zC (zG (zC (zC (zG (zC zK)))))) (by kernel_rfl) (fun _ => by kernel_rfl) ?_
      refine K11 (yJ 2) ?_
      refine yZ 2 rfl ?_ rfl
      refine K22 (zZ b43 0 (.int .i64 x35.1)) (zM o_x11 rfl) (zE ?_)
      refine ⟨rfl, ?_⟩
      refine K44 (yE 4 (Value.agg #[(S f), (.int .i64 x35.1), (.int .i64 ((toldC (LineV.fs x35) 71).2.2.2))]) rfl) (zC (zG (zC (zC (zG (zC zK)))))) (by kernel_rfl) (fun _ => by kernel_rfl) ?_
      refine K11 (yJ 5) ?_
      refine yZ 5 rfl ?_ rfl
      refine K21 (yW (fun b => .pointer (some ⟨b, 0, none⟩)) (.cells [(S f), (.int .i64 x35.1), (.int .i64 ((toldC (LineV.fs x35) 71).2.2.2))].toArray 75 (0, 0))) ?_
      intro b140 w141 hN142
      have g_x60 : w.heap.size ≤ b140 := by rw [hN142.num]; exact hs
      replace hb := hb.trans (hN142.below.mono hs)
      replace hs := Nat.le_trans hs (hN142.below.size)
      refine zE ?_
      refine ⟨rfl, ?_⟩
      refine K44 (yE 6 (.iface 73 (.pointer (some ⟨b140, 0, none⟩))) rfl) (zC (zG (zC (zC (zG (zC zK)))))) (by kernel_rfl) (fun _ => by kernel_rfl) ?_
      refine K44 (yE 8 (.iface 73 (.pointer (some ⟨b140, 0, none⟩))) rfl) (zC (zG (zC (zC (zG (zC zK)))))) (by kernel_rfl) (fun _ => by kernel_rfl) ?_
      refine K11 yQ ?_
      refine zA (zX (zU (zH (zH (zU (zH (end_retM (ds := []) hds ?_)))))))
      refine Lv_nil [.tmp 4, .tmp 5] [(.pointer none), (.iface 73 (.pointer (some ⟨b140, 0, none⟩)))] rfl ⟨by kernel_rfl, by kernel_rfl, trivial⟩ ?_
      exfalso; first | exact xQ hok (cb_data1 i3 (by assumption) (by assumption) (by assumption)) (by first | assumption | decide) | exact xQ hok (cb_data2 i3 (by assumption) (by assumption) (by assumption) (by assumption)) (by first | assumption | decide) | exact xQ hok (cb_data3 i3 (by assumption) (by assumption) (by assumption) (by assumption) (by assumption)) (by first | assumption | decide) | exact xQ hok (cb_order i3 (by assumption) (by assumption)) (by first | assumption | decide) | exact xQ hok (cb_miss i3 (by assumption) (by assumption) (by assumption)) (by first | assumption | decide)
     ·intro h143
      replace h143 : (toldC (LineV.fs x35) 71).2.2.2 = 0 := by omega
      exact absurd h143 h136
    ·intro h144
     replace h144 : (toldC (LineV.fs x35) 71).2.2.2 = 0 := by omega
     refine zE (zA (K11 zN (zV (zA (zF (K31 (W_draws 13) ?_))))))
     intro w145 hB146
     replace hb := hb.trans (hB146.mono hs)
     replace hs := Nat.le_trans hs (hB146.size)
     replace o_cb11 := zB o_cb11 hB146
     replace o_cb15 := zB o_cb15 hB146
     replace o_cb19 := zB o_cb19 hB146
     replace o_x30 := zB o_x30 hB146
     replace o_x8 := zB o_x8 hB146
     replace o_xi4_5 := zB o_xi4_5 hB146
     replace r_q2 := r_q2.below hB146
     replace r_b28 := r_b28.below hB146
     replace r_cb11_0 := r_cb11_0.below hB146
     replace r_cb15_0 := r_cb15_0.below hB146
     replace r_x30_2 := r_x30_2.below hB146
     refine K44 (yE 0 (.pointer (some ⟨b20, 0, none⟩)) rfl) (zC zR) (by kernel_rfl) (fun _ => by kernel_rfl) ?_
     refine K44 (yE 1 (.pointer (some ⟨b20, 0, none⟩)) rfl) (zC zR) (by kernel_rfl) (fun _ => by kernel_rfl) ?_
     refine K44 (yE 2 (.pointer (some ⟨b20, 0, none⟩)) rfl) (zC zR) (by kernel_rfl) (fun _ => by kernel_rfl) ?_
     refine K44 (yE 3 (.pointer (some ⟨b20, 2, none⟩)) rfl) (zC zR) (by kernel_rfl) (fun _ => by kernel_rfl) ?_
     refine K44 (yE 6 (.int .u8 ((toldC (LineV.fs x35) 71).2.2.1)) rfl) (zC zR) (by kernel_rfl) (fun _ => by kernel_rfl) ?_
     refine K12 (I_all2 4 5) ?_ ?_
     ·skip
      refine yZ 4 rfl ?_ rfl
      refine K22 (zZ b20 2 v_x30_2) (zM o_x30 rfl) (zE ?_)
      refine ⟨rfl, ?_⟩
      refine K11 (yJ 5) ?_
      refine yZ 5 rfl ?_ rfl
      refine K32 (yH b131 0 [(.int .i32 ((toldC (LineV.fs x35) 71).1)), (.int .i32 ((toldC (LineV.fs x35) 71).2.1))]) (K10 (yN o_xi4_5 0)) (zE ?_)
      refine ⟨rfl, ?_⟩
      refine K44 (yE 7 (Value.agg #[(.int .i32 ((toldC (LineV.fs x35) 71).1)), (.int .i32 ((toldC (LineV.fs x35) 71).2.1)), (.int .u8 ((toldC (LineV.fs x35) 71).2.2.1))]) rfl) (zC zR) (by kernel_rfl) (fun _ => by kernel_rfl) ?_
      refine K11 (yJ 8) ?_
      refine yZ 8 rfl ?_ rfl
      refine K21 (yW (fun b => .slice (some ⟨b, 0, none⟩) 1 1) (.cells [(.int .i32 ((toldC (LineV.fs x35) 71).1)), (.int .i32 ((toldC (LineV.fs x35) 71).2.1)), (.int .u8 ((toldC (LineV.fs x35) 71).2.2.1))].toArray 45 (0, 0))) ?_
      intro b147 w148 hN149
      have g_b147 : w.heap.size ≤ b147 := by rw [hN149.num]; exact hs
      have ap_r_x30_2_r_b147 : Value.ownBlock v_x30_2 = none ∨ Value.ownBlock v_x30_2 ≠ Value.ownBlock (.slice (some ⟨b147, 0, none⟩) 1 1) := .inr (r_x30_2.new_ne hN149)
      have ap_r_b147_r_x30_2 := ap_comm ap_r_x30_2_r_b147
      replace hb := hb.trans (hN149.below.mono hs)
      replace hs := Nat.le_trans hs (hN149.below.size)
      replace o_cb11 := zB o_cb11 hN149.below
      replace o_cb15 := zB o_cb15 hN149.below
      replace o_cb19 := zB o_cb19 hN149.below
      replace o_x30 := zB o_x30 hN149.below
      replace o_x8 := zB o_x8 hN149.below
      replace r_q2 := r_q2.below hN149.below
      replace r_b28 := r_b28.below hN149.below
      replace r_cb11_0 := r_cb11_0.below hN149.below
      replace r_cb15_0 := r_cb15_0.below hN149.below
      replace r_x30_2 := r_x30_2.below hN149.below
      have r_b147 : Row w148 w.heap.size 45 3 encSpanC (.slice (some ⟨b147, 0, none⟩) 1 1) ([((toldC (LineV.fs x35) 71).1, (toldC (LineV.fs x35) 71).2.1, (toldC (LineV.fs x35) 71).2.2.1)] : List (Int × Int × Int)) := Row.made ([((toldC (LineV.fs x35) 71).1, (toldC (LineV.fs x35) 71).2.1, (toldC (LineV.fs x35) 71).2.2.1)] : List (Int × Int × Int)) hN149 g_b147 rfl rfl (by first | decide | (simp; done))
      refine zE ?_
      refine ⟨rfl, ?_⟩
      refine K11 (yJ 9) ?_
      refine yZ 9 rfl ?_ rfl
      refine K31 (L_appAll el42 w.heap.size v_x30_2 (.slice (some ⟨b147, 0, none⟩) 1 1) mm ([((toldC (LineV.fs x35) 71).1, (toldC (LineV.fs x35) 71).2.1, (toldC (LineV.fs x35) 71).2.2.1)] : List (Int × Int × Int)) hs r_x30_2 r_b147.rd (by (simp only [List.length_append, List.length_cons, List.length_nil] <;> omega)) (fun _ => rfl) (fun _ => rfl)) ?_
      intro v150 w151 hr152 hg153 how154 
      have nap_r_b147 := ap_app2 r_b147 how154 ap_r_b147_r_x30_2
      replace hb := hb.grown hg153 hs (fun k hk => (World.ownsRow.lt r_x30_2 k hk).1)
      replace hs := Nat.le_trans hs (hg153.size)
      replace o_cb11 := yF o_cb11 hg153 (r_x30_2.ne o_cb11 (by simp))
      replace o_cb15 := yF o_cb15 hg153 (r_x30_2.ne o_cb15 (by simp))
      replace o_cb19 := yF o_cb19 hg153 (r_x30_2.ne o_cb19 (by simp))
      replace o_x30 := yF o_x30 hg153 (r_x30_2.ne o_x30 (by simp))
      replace o_x8 := yF o_x8 hg153 (r_x30_2.ne o_x8 (by simp))
      replace r_q2 := r_q2.grown hg153 (r_q2.apart r_x30_2 (by kernel_rfl))
      replace r_b28 := r_b28.grown hg153 (r_b28.apart r_x30_2 (by kernel_rfl))
      replace r_cb11_0 := r_cb11_0.grown hg153 (r_cb11_0.apart r_x30_2 (by kernel_rfl))
      replace r_cb15_0 := r_cb15_0.grown hg153 (r_cb15_0.apart r_x30_2 (by kernel_rfl))
      replace r_x30_2 := hr152
      refine zE ?_
      refine ⟨rfl, ?_⟩
      refine K44 (yE 10 (.pointer (some ⟨b20, 0, none⟩)) rfl) (zC zR) (by kernel_rfl) (fun _ => by kernel_rfl) ?_
      refine K44 (yE 11 (.pointer (some ⟨b20, 2, none⟩)) rfl) (zC zR) (by kernel_rfl) (fun _ => by kernel_rfl) ?_
      refine K11 (yJ 12) ?_
      refine yZ 12 rfl ?_ rfl
      refine K26 (xC b20 2 v150 [(.pointer (some ⟨cb11, 0, none⟩)), (.pointer (some ⟨cb15, 0, none⟩)), v_x30_2, (.pointer (some ⟨cb19, 0, none⟩))] [(.pointer (some ⟨cb11, 0, none⟩)), (.pointer (some ⟨cb15, 0, none⟩)), v150, (.pointer (some ⟨cb19, 0, none⟩))] 66) r_x30_2.one (by kernel_rfl) o_x30 (by simp) rfl ?_
      intro w155 hW156
      replace hb := hb.trans (hW156.below g_x30)
      replace hs := Nat.le_trans hs (Nat.le_of_eq hW156.size.symm)
      replace o_cb11 := zL o_cb11 hW156 (zT o_cb11 o_x30 (by simp))
      replace o_cb15 := zL o_cb15 hW156 (zT o_cb15 o_x30 (by simp))
      replace o_cb19 := zL o_cb19 hW156 (zT o_cb19 o_x30 (by simp))
      replace o_x8 := zL o_x8 hW156 (zT o_x8 o_x30 (by simp))
      replace r_q2 := r_q2.wrote hW156 (r_q2.ne o_x30 (by simp))
      replace r_b28 := r_b28.wrote hW156 (r_b28.ne o_x30 (by simp))
      replace r_cb11_0 := r_cb11_0.wrote hW156 (r_cb11_0.ne o_x30 (by simp))
      replace r_cb15_0 := r_cb15_0.wrote hW156 (r_cb15_0.ne o_x30 (by simp))
      replace r_x30_2 := r_x30_2.wrote hW156 (r_x30_2.ne o_x30 (by simp))
      replace o_x30 := hW156.here
      refine zE ?_
      refine ⟨rfl, ?_⟩
      refine K11 yQ ?_
      refine zA (zF (zD (zJ (zE (zA (zX ?_))))))
      refine zO [.tmp 4] [(.int .i64 0)] rfl rfl ⟨by kernel_rfl, trivial⟩ ?_
      show L _ _ _ _ _ _ (Fm.put _ _ (.int .i64 0)) _
      refine zE ?_
      refine ⟨rfl, ?_⟩
      refine K44 (yE 7 (.int .i64 0) rfl) (zC (zG (zC (zC (zG (zC zK)))))) (by kernel_rfl) (fun _ => by kernel_rfl) ?_
      refine K11 yQ ?_
      refine zA (zF (zD (zI (K21 (zQ (.bool false)) (zE (zA (K11 zN (zV (zP (zA (zD (K21 (xD i 1 (by omega)) (zI (zE ?_))))))))))))))
      refine zA ⟨_, ?_, (i + 1), am, lm, (mm ++ ([((toldC (LineV.fs x35) 71).1, (toldC (LineV.fs x35) 71).2.1, (toldC (LineV.fs x35) 71).2.2.1)] : List (Int × Int × Int))), v_cb11_0, v_cb15_0, v150, rfl, hds, by kernel_rfl, by kernel_rfl, by kernel_rfl, by kernel_rfl, by kernel_rfl, by kernel_rfl, r_q2, r_b28, r_cb11_0, r_cb15_0, r_x30_2, o_cb11, o_cb15, o_cb19, o_x30, o_x8, hb, hs, ?_, ?_, ?_, ?_, ?_, ?_⟩
      ·omega
      ·omega
      ·exact invC_on i3 (by assumption) (st_miss (by assumption) (by assumption))
      ·exact oa
      ·exact ol
      ·(simp only [List.length_append, List.length_cons, List.length_nil]; omega)
      ·first | exact om | exact rng_snoc om _ _ _
     ·skip
      refine yZ 5 rfl ?_ rfl
      refine K32 (yH b131 0 [(.int .i32 ((toldC (LineV.fs x35) 71).1)), (.int .i32 ((toldC (LineV.fs x35) 71).2.1))]) (K10 (yN o_xi4_5 0)) (zE ?_)
      refine ⟨rfl, ?_⟩
      refine K44 (yE 7 (Value.agg #[(.int .i32 ((toldC (LineV.fs x35) 71).1)), (.int .i32 ((toldC (LineV.fs x35) 71).2.1)), (.int .u8 ((toldC (LineV.fs x35) 71).2.2.1))]) rfl) (zC zR) (by kernel_rfl) (fun _ => by kernel_rfl) ?_
      refine K12 (I_all2 4 8) ?_ ?_
      ·skip
       refine yZ 4 rfl ?_ rfl
       refine K22 (zZ b20 2 v_x30_2) (zM o_x30 rfl) (zE ?_)
       refine ⟨rfl, ?_⟩
       refine K11 (yJ 8) ?_
       refine yZ 8 rfl ?_ rfl
       refine K21 (yW (fun b => .slice (some ⟨b, 0, none⟩) 1 1) (.cells [(.int .i32 ((toldC (LineV.fs x35) 71).1)), (.int .i32 ((toldC (LineV.fs x35) 71).2.1)), (.int .u8 ((toldC (LineV.fs x35) 71).2.2.1))].toArray 45 (0, 0))) ?_
       intro b157 w158 hN159
       have g_b157 : w.heap.size ≤ b157 := by rw [hN159.num]; exact hs
       have ap_r_x30_2_r_b157 : Value.ownBlock v_x30_2 = none ∨ Value.ownBlock v_x30_2 ≠ Value.ownBlock (.slice (some ⟨b157, 0, none⟩) 1 1) := .inr (r_x30_2.new_ne hN159)
       have ap_r_b157_r_x30_2 := ap_comm ap_r_x30_2_r_b157
       replace hb := hb.trans (hN159.below.mono hs)
       replace hs := Nat.le_trans hs (hN159.below.size)
       replace o_cb11 := zB o_cb11 hN159.below
       replace o_cb15 := zB o_cb15 hN159.below
       replace o_cb19 := zB o_cb19 hN159.below
       replace o_x30 := zB o_x30 hN159.below
       replace o_x8 := zB o_x8 hN159.below
       replace r_q2 := r_q2.below hN159.below
       replace r_b28 := r_b28.below hN159.below
       replace r_cb11_0 := r_cb11_0.below hN159.below
       replace r_cb15_0 := r_cb15_0.below hN159.below
       replace r_x30_2 := r_x30_2.below hN159.below
       have r_b157 : Row w158 w.heap.size 45 3 encSpanC (.slice (some ⟨b157, 0, none⟩) 1 1) ([((toldC (LineV.fs x35) 71).1, (toldC (LineV.fs x35) 71).2.1, (toldC (LineV.fs x35) 71).2.2.1)] : List (Int × Int × Int)) := Row.made ([((toldC (LineV.fs x35) 71).1, (toldC (LineV.fs x35) 71).2.1, (toldC (LineV.fs x35) 71).2.2.1)] : List (Int × Int × Int)) hN159 g_b157 rfl rfl (by first | decide | (simp; done))
       refine zE ?_
       refine ⟨rfl, ?_⟩
       refine K11 (yJ 9) ?_
       refine yZ 9 rfl ?_ rfl
       refine K31 (L_appAll el42 w.heap.size v_x30_2 (.slice (some ⟨b157, 0, none⟩) 1 1) mm ([((toldC (LineV.fs x35) 71).1, (toldC (LineV.fs x35) 71).2.1, (toldC (LineV.fs x35) 71).2.2.1)] : List (Int × Int × Int)) hs r_x30_2 r_b157.rd (by (simp only [List.length_append, List.length_cons, List.length_nil] <;> omega)) (fun _ => rfl) (fun _ => rfl)) ?_
       intro v160 w161 hr162 hg163 how164 
       have nap_r_b157 := ap_app2 r_b157 how164 ap_r_b157_r_x30_2
       replace hb := hb.grown hg163 hs (fun k hk => (World.ownsRow.lt r_x30_2 k hk).1)
       replace hs := Nat.le_trans hs (hg163.size)
       replace o_cb11 := yF o_cb11 hg163 (r_x30_2.ne o_cb11 (by simp))
       replace o_cb15 := yF o_cb15 hg163 (r_x30_2.ne o_cb15 (by simp))
       replace o_cb19 := yF o_cb19 hg163 (r_x30_2.ne o_cb19 (by simp))
       replace o_x30 := yF o_x30 hg163 (r_x30_2.ne o_x30 (by simp))
       replace o_x8 := yF o_x8 hg163 (r_x30_2.ne o_x8 (by simp))
       replace r_q2 := r_q2.grown hg163 (r_q2.apart r_x30_2 (by kernel_rfl))
       replace r_b28 := r_b28.grown hg163 (r_b28.apart r_x30_2 (by kernel_rfl))
       replace r_cb11_0 := r_cb11_0.grown hg163 (r_cb11_0.apart r_x30_2 (by kernel_rfl))
       replace r_cb15_0 := r_cb15_0.grown hg163 (r_cb15_0.apart r_x30_2 (by kernel_rfl))
       replace r_x30_2 := hr162
       refine zE ?_
       refine ⟨rfl, ?_⟩
       refine K44 (yE 10 (.pointer (some ⟨b20, 0, none⟩)) rfl) (zC zR) (by kernel_rfl) (fun _ => by kernel_rfl) ?_
       refine K44 (yE 11 (.pointer (some ⟨b20, 2, none⟩)) rfl) (zC zR) (by kernel_rfl) (fun _ => by kernel_rfl) ?_
       refine K11 (yJ 12) ?_
       refine yZ 12 rfl ?_ rfl
       refine K26 (xC b20 2 v160 [(.pointer (some ⟨cb11, 0, none⟩)), (.pointer (some ⟨cb15, 0, none⟩)), v_x30_2, (.pointer (some ⟨cb19, 0, none⟩))] [(.pointer (some ⟨cb11, 0, none⟩)), (.pointer (some ⟨cb15, 0, none⟩)), v160, (.pointer (some ⟨cb19, 0, none⟩))] 66) r_x30_2.one (by kernel_rfl) o_x30 (by simp) rfl ?_
       intro w165 hW166
       replace hb := hb.trans (hW166.below g_x30)
       replace hs := Nat.le_trans hs (Nat.le_of_eq hW166.size.symm)
       replace o_cb11 := zL o_cb11 hW166 (zT o_cb11 o_x30 (by simp))
       replace o_cb15 := zL o_cb15 hW166 (zT o_cb15 o_x30 (by simp))
       replace o_cb19 := zL o_cb19 hW166 (zT o_cb19 o_x30 (by simp))
       replace o_x8 := zL o_x8 hW166 (zT o_x8 o_x30 (by simp))
       replace r_q2 := r_q2.wrote hW166 (r_q2.ne o_x30 (by simp))
       replace r_b28 := r_b28.wrote hW166 (r_b28.ne o_x30 (by simp))
       replace r_cb11_0 := r_cb11_0.wrote hW166 (r_cb11_0.ne o_x30 (by simp))
       replace r_cb15_0 := r_cb15_0.wrote hW166 (r_cb15_0.ne o_x30 (by simp))
       replace r_x30_2 := r_x30_2.wrote hW166 (r_x30_2.ne o_x30 (by simp))
       replace o_x30 := hW166.here
       refine zE ?_
       refine ⟨rfl, ?_⟩
       refine K11 yQ ?_
       refine zA (zF (zD (zJ (zE (zA (zX ?_))))))
       refine zO [.tmp 4] [(.int .i64 0)] rfl rfl ⟨by kernel_rfl, trivial⟩ ?_
       show L _ _ _ _ _ _ (Fm.put _ _ (.int .i64 0)) _
       refine zE ?_
       refine ⟨rfl, ?_⟩
       refine K44 (yE 7 (.int .i64 0) rfl) (zC (zG (zC (zC (zG (zC zK)))))) (by kernel_rfl) (fun _ => by kernel_rfl) ?_
       refine K11 yQ ?_
       refine zA (zF (zD (zI (K21 (zQ (.bool false)) (zE (zA (K11 zN (zV (zP (zA (zD (K21 (xD i 1 (by omega)) (zI (zE ?_))))))))))))))
       refine zA ⟨_, ?_, (i + 1), am, lm, (mm ++ ([((toldC (LineV.fs x35) 71).1, (toldC (LineV.fs x35) 71).2.1, (toldC (LineV.fs x35) 71).2.2.1)] : List (Int × Int × Int))), v_cb11_0, v_cb15_0, v160, rfl, hds, by kernel_rfl, by kernel_rfl, by kernel_rfl, by kernel_rfl, by kernel_rfl, by kernel_rfl, r_q2, r_b28, r_cb11_0, r_cb15_0, r_x30_2, o_cb11, o_cb15, o_cb19, o_x30, o_x8, hb, hs, ?_, ?_, ?_, ?_, ?_, ?_⟩
       ·omega
       ·omega
       ·exact invC_on i3 (by assumption) (st_miss (by assumption) (by assumption))
       ·exact oa
       ·exact ol
       ·(simp only [List.length_append, List.length_cons, List.length_nil]; omega)
       ·first | exact om | exact rng_snoc om _ _ _
      ·skip
       refine yZ 8 rfl ?_ rfl
       refine K21 (yW (fun b => .slice (some ⟨b, 0, none⟩) 1 1) (.cells [(.int .i32 ((toldC (LineV.fs x35) 71).1)), (.int .i32 ((toldC (LineV.fs x35) 71).2.1)), (.int .u8 ((toldC (LineV.fs x35) 71).2.2.1))].toArray 45 (0, 0))) ?_
       intro b167 w168 hN169
       have g_b167 : w.heap.size ≤ b167 := by rw [hN169.num]; exact hs
       have ap_r_x30_2_r_b167 : Value.ownBlock v_x30_2 = none ∨ Value.ownBlock v_x30_2 ≠ Value.ownBlock (.slice (some ⟨b167, 0, none⟩) 1 1) := .inr (r_x30_2.new_ne hN169)
       have ap_r_b167_r_x30_2 := ap_comm ap_r_x30_2_r_b167
       replace hb := hb.trans (hN169.below.mono hs)
       replace hs := Nat.le_trans hs (hN169.below.size)
       replace o_cb11 := zB o_cb11 hN169.below
       replace o_cb15 := zB o_cb15 hN169.below
       replace o_cb19 := zB o_cb19 hN169.below
       replace o_x30 := zB o_x30 hN169.below
       replace o_x8 := zB o_x8 hN169.below
       replace r_q2 := r_q2.below hN169.below
       replace r_b28 := r_b28.below hN169.below
       replace r_cb11_0 := r_cb11_0.below hN169.below
       replace r_cb15_0 := r_cb15_0.below hN169.below
       replace r_x30_2 := r_x30_2.below hN169.below
       have r_b167 : Row w168 w.heap.size 45 3 encSpanC (.slice (some ⟨b167, 0, none⟩) 1 1) ([((toldC (LineV.fs x35) 71).1, (toldC (LineV.fs x35) 71).2.1, (toldC (LineV.fs x35) 71).2.2.1)] : List (Int × Int × Int)) := Row.made ([((toldC (LineV.fs x35) 71).1, (toldC (LineV.fs x35) 71).2.1, (toldC (LineV.fs x35) 71).2.2.1)] : List (Int × Int × Int)) hN169 g_b167 rfl rfl (by first | decide | (simp; done))
       refine zE ?_
       refine ⟨rfl, ?_⟩
       refine K11 (yJ 4) ?_
       refine yZ 4 rfl ?_ rfl
       refine K22 (zZ b20 2 v_x30_2) (zM o_x30 rfl) (zE ?_)
       refine ⟨rfl, ?_⟩
       refine K11 (yJ 9) ?_
       refine yZ 9 rfl ?_ rfl
       refine K31 (L_appAll el42 w.heap.size v_x30_2 (.slice (some ⟨b167, 0, none⟩) 1 1) mm ([((toldC (LineV.fs x35) 71).1, (toldC (LineV.fs x35) 71).2.1, (toldC (LineV.fs x35) 71).2.2.1)] : List (Int × Int × Int)) hs r_x30_2 r_b167.rd (by (simp only [List.length_append, List.length_cons, List.length_nil] <;> omega)) (fun _ => rfl) (fun _ => rfl)) ?_
       intro v170 w171 hr172 hg173 how174 
       have nap_r_b167 := ap_app2 r_b167 how174 ap_r_b167_r_x30_2
       replace hb := hb.grown hg173 hs (fun k hk => (World.ownsRow.lt r_x30_2 k hk).1)
       replace hs := Nat.le_trans hs (hg173.size)
       replace o_cb11 := yF o_cb11 hg173 (r_x30_2.ne o_cb11 (by simp))
       replace o_cb15 := yF o_cb15 hg173 (r_x30_2.ne o_cb15 (by simp))
       replace o_cb19 := yF o_cb19 hg173 (r_x30_2.ne o_cb19 (by simp))
       replace o_x30 := yF o_x30 hg173 (r_x30_2.ne o_x30 (by simp))
       replace o_x8 := yF o_x8 hg173 (r_x30_2.ne o_x8 (by simp))
       replace r_q2 := r_q2.grown hg173 (r_q2.apart r_x30_2 (by kernel_rfl))
       replace r_b28 := r_b28.grown hg173 (r_b28.apart r_x30_2 (by kernel_rfl))
       replace r_cb11_0 := r_cb11_0.grown hg173 (r_cb11_0.apart r_x30_2 (by kernel_rfl))
       replace r_cb15_0 := r_cb15_0.grown hg173 (r_cb15_0.apart r_x30_2 (by kernel_rfl))
       replace r_x30_2 := hr172
       refine zE ?_
       refine ⟨rfl, ?_⟩
       refine K44 (yE 10 (.pointer (some ⟨b20, 0, none⟩)) rfl) (zC zR) (by kernel_rfl) (fun _ => by kernel_rfl) ?_
       refine K44 (yE 11 (.pointer (some ⟨b20, 2, none⟩)) rfl) (zC zR) (by kernel_rfl) (fun _ => by kernel_rfl) ?_
       refine K11 (yJ 12) ?_
       refine yZ 12 rfl ?_ rfl
       refine K26 (xC b20 2 v170 [(.pointer (some ⟨cb11, 0, none⟩)), (.pointer (some ⟨cb15, 0, none⟩)), v_x30_2, (.pointer (some ⟨cb19, 0, none⟩))] [(.pointer (some ⟨cb11, 0, none⟩)), (.pointer (some ⟨cb15, 0, none⟩)), v170, (.pointer (some ⟨cb19, 0, none⟩))] 66) r_x30_2.one (by kernel_rfl) o_x30 (by simp) rfl ?_
       intro w175 hW176
       replace hb := hb.trans (hW176.below g_x30)
       replace hs := Nat.le_trans hs (Nat.le_of_eq hW176.size.symm)
       replace o_cb11 := zL o_cb11 hW176 (zT o_cb11 o_x30 (by simp))
       replace o_cb15 := zL o_cb15 hW176 (zT o_cb15 o_x30 (by simp))
       replace o_cb19 := zL o_cb19 hW176 (zT o_cb19 o_x30 (by simp))
       replace o_x8 := zL o_x8 hW176 (zT o_x8 o_x30 (by simp))
       replace r_q2 := r_q2.wrote hW176 (r_q2.ne o_x30 (by simp))
       replace r_b28 := r_b28.wrote hW176 (r_b28.ne o_x30 (by simp))
       replace r_cb11_0 := r_cb11_0.wrote hW176 (r_cb11_0.ne o_x30 (by simp))
       replace r_cb15_0 := r_cb15_0.wrote hW176 (r_cb15_0.ne o_x30 (by simp))
       replace r_x30_2 := r_x30_2.wrote hW176 (r_x30_2.ne o_x30 (by simp))
       replace o_x30 := hW176.here
       refine zE ?_
       refine ⟨rfl, ?_⟩
       refine K11 yQ ?_
       refine zA (zF (zD (zJ (zE (zA (zX ?_))))))
       refine zO [.tmp 4] [(.int .i64 0)] rfl rfl ⟨by kernel_rfl, trivial⟩ ?_
       show L _ _ _ _ _ _ (Fm.put _ _ (.int .i64 0)) _
       refine zE ?_
       refine ⟨rfl, ?_⟩
       refine K44 (yE 7 (.int .i64 0) rfl) (zC (zG (zC (zC (zG (zC zK)))))) (by kernel_rfl) (fun _ => by kernel_rfl) ?_
       refine K11 yQ ?_
       refine zA (zF (zD (zI (K21 (zQ (.bool false)) (zE (zA (K11 zN (zV (zP (zA (zD (K21 (xD i 1 (by omega)) (zI (zE ?_))))))))))))))
       refine zA ⟨_, ?_, (i + 1), am, lm, (mm ++ ([((toldC (LineV.fs x35) 71).1, (toldC (LineV.fs x35) 71).2.1, (toldC (LineV.fs x35) 71).2.2.1)] : List (Int × Int × Int))), v_cb11_0, v_cb15_0, v170, rfl, hds, by kernel_rfl, by kernel_rfl, by kernel_rfl, by kernel_rfl, by kernel_rfl, by kernel_rfl, r_q2, r_b28, r_cb11_0, r_cb15_0, r_x30_2, o_cb11, o_cb15, o_cb19, o_x30, o_x8, hb, hs, ?_, ?_, ?_, ?_, ?_, ?_⟩
       ·omega
       ·omega
       ·exact invC_on i3 (by assumption) (st_miss (by assumption) (by assumption))
       ·exact oa
       ·exact ol
       ·(simp only [List.length_append, List.length_cons, List.length_nil]; omega)
       ·first | exact om | exact rng_snoc om _ _ _
  ·intro h177
   replace h177 : (l6).length ≤ i := by omega
   refine zE (zA (zF (K11 zN (W_exit (yM (yM (xM (zA (zF (zD (K22 (zZ b23 0 (.pointer (some ⟨b20, 0, none⟩))) (zM o_x8 rfl) (K21 (zQ (.pointer (some ⟨b20, 0, none⟩))) (K21 (zQ (.pointer (some ⟨b20, 3, none⟩))) (K22 (zZ b20 3 (.pointer (some ⟨cb19, 0, none⟩))) (zM o_x30 rfl) (K21 (zQ (Value.agg #[(.int .i32 0), (.int .i32 1114111)])) (K22 (yA 34 [(.pointer (some ⟨cb19, 0, none⟩)), (Value.agg #[(.int .i32 0), (.int .i32 1114111)]), (.int .u8 1)]) (c_lay_C cb19 (.slice none 0 0) [] 0 1114111 1 w.heap.size _ hs o_cb19 g_cb19 (Row.nil _ w.heap.size 126 3 encSpanC) (by exact trivial) (by omega) (by omega)) ?_))))))))))))))))
   rintro _ w179 ⟨q178, rfl, ho182, r_q178, dm180, hC181⟩
   replace hb := hC181.below hb hs (fun k e => e.elim (fun x => x ▸ g_cb19) (fun x => by simp [Value.ownBlock] at x))
   replace hs := Nat.le_trans hs hC181.size
   have n_o_cb11 := yL o_cb11 hC181 ne_cb11_cb19 (by simp [Value.ownBlock])
   have n_o_cb15 := yL o_cb15 hC181 (zT o_cb15 o_cb19 (by simp)) (by simp [Value.ownBlock])
   have n_o_x30 := yL o_x30 hC181 (zT o_x30 o_cb19 (by simp)) (by simp [Value.ownBlock])
   have n_o_x8 := yL o_x8 hC181 (zT o_x8 o_cb19 (by simp)) (by simp [Value.ownBlock])
   have n_r_q2 := NRow.ch_mut r_q2 hC181 (r_q2.ne o_cb19 (by simp)) (NAp.none _ _)
   have n_r_b28 := r_b28.ch_mut hC181 (r_b28.ne o_cb19 (by simp)) (ap_nil _)
   have ap_r_cb11_0_r_q178 := ap_mut r_cb11_0 dm180 (r_cb11_0.ne o_cb19 (by simp)) (ap_nil _); have ap_r_q178_r_cb11_0 := ap_comm ap_r_cb11_0_r_q178
   have n_r_cb11_0 := r_cb11_0.ch_mut hC181 (r_cb11_0.ne o_cb19 (by simp)) (ap_nil _)
   have n_r_cb15_0 := r_cb15_0.ch_mut hC181 (r_cb15_0.ne o_cb19 (by simp)) (ap_nil _)
   have n_r_x30_2 := r_x30_2.ch_mut hC181 (r_x30_2.ne o_cb19 (by simp)) (ap_nil _)
   replace o_cb11 := n_o_cb11; clear n_o_cb11
   replace o_cb15 := n_o_cb15; clear n_o_cb15
   replace o_x30 := n_o_x30; clear n_o_x30
   replace o_x8 := n_o_x8; clear n_o_x8
   replace r_q2 := n_r_q2; clear n_r_q2
   replace r_b28 := n_r_b28; clear n_r_b28
   replace r_cb11_0 := n_r_cb11_0; clear n_r_cb11_0
   replace r_cb15_0 := n_r_cb15_0; clear n_r_cb15_0
   replace r_x30_2 := n_r_x30_2; clear n_r_x30_2
   replace o_cb19 := ho182
   refine zE (zA (zF (zF (zD (K22 (zZ b23 0 (.pointer (some ⟨b20, 0, none⟩))) (zM o_x8 rfl) (K21 (zQ (.pointer (some ⟨b20, 0, none⟩))) (K21 (zQ (.pointer (some ⟨b20, 2, none⟩))) (K22 (zZ b20 2 v_x30_2) (zM o_x30 rfl) (K11 (L_len 42 45 (mm).length v_x30_2 rfl Tryz.underlying42 (r_x30_2.rd).len) (zI (zE (zA (yP ?_)))))))))))))
   refine W_loop (fun m s0 w0 => ∃ (j : Nat) (wh : List SpI) (v_cb19_0 : Value), (m = mm.length - j) ∧ (s0.ds = []) ∧ (s0.f 8 = (.pointer (some ⟨b23, 0, none⟩))) ∧ (s0.f 72 = v_x30_2) ∧ (s0.f 73 = (.int .i64 (((mm).length : Nat) : Int))) ∧ (s0.f 74 = (.int .i64 ((j : Nat) : Int))) ∧ (NRow 9 w0 w.heap.size 72 5 encLine q2 l6) ∧ (Row w0 w.heap.size 67 1 encVal (.slice (some ⟨b28, 0, none⟩) 4 4) ([(.func (.func 30) #[(.pointer (some ⟨b20, 0, none⟩))] #[]), (.func (.func 31) #[(.pointer (some ⟨b20, 0, none⟩))] #[]), (.func (.func 32) #[(.pointer (some ⟨b20, 0, none⟩))] #[]), (.func (.func 33) #[(.pointer (some ⟨b20, 0, none⟩))] #[])] : List (Value))) ∧ (Row w0 w.heap.size 126 3 encSpanC v_cb11_0 am) ∧ (Row w0 w.heap.size 131 3 encSpanI v_cb15_0 lm) ∧ (Row w0 w.heap.size 45 3 encSpanC v_x30_2 mm) ∧ (Row w0 w.heap.size 126 3 encSpanC v_cb19_0 wh) ∧ (w0.heap[cb11]? = some (.cells [v_cb11_0, (.bool true)].toArray 115 (0, 0))) ∧ (w0.heap[cb15]? = some (.cells [v_cb15_0, (.bool true)].toArray 118 (0, 0))) ∧ (w0.heap[cb19]? = some (.cells [v_cb19_0, (.bool true)].toArray 115 (0, 0))) ∧ (w0.heap[b20]? = some (.cells [(.pointer (some ⟨cb11, 0, none⟩)), (.pointer (some ⟨cb15, 0, none⟩)), v_x30_2, (.pointer (some ⟨cb19, 0, none⟩))].toArray 66 (0, 0))) ∧ (w0.heap[b23]? = some (.cells [(.pointer (some ⟨b20, 0, none⟩))].toArray 23 (0, 0))) ∧ (Value.ownBlock v_cb11_0 = none ∨ Value.ownBlock v_cb11_0 ≠ Value.ownBlock v_cb19_0) ∧ (Below w.heap.size w w0) ∧ (w.heap.size ≤ w0.heap.size) ∧ (j ≤ mm.length) ∧ (wh = layAll eqI (layF eqC [] 0 1114111 1) (mm.take j)) ∧ (MapOk eqI wh)) _ ⟨0, (layF eqC [] 0 1114111 1), q178, rfl, hds, by kernel_rfl, by kernel_rfl, by kernel_rfl, by kernel_rfl, r_q2, r_b28, r_cb11_0, r_cb15_0, r_x30_2, r_q178, o_cb11, o_cb15, o_cb19, o_x30, o_x8, ap_r_cb11_0_r_q178, hb, hs, (Nat.zero_le _), rfl, (MapOk.nil.lay eqI_law _ _ _)⟩ ?_
   rintro m183 s184 w185 ⟨j, wh, v_cb19_0, hm, hds, f_8, f_72, f_73, f_74, r_q2, r_b28, r_cb11_0, r_cb15_0, r_x30_2, r_cb19_0, o_cb11, o_cb15, o_cb19, o_x30, o_x8, ap_r_cb11_0_r_cb19_0, hb, hs, j1, j2, ow⟩
   refine yK 8 _ f_8 (yK 72 _ f_72 (yK 73 _ f_73 (yK 74 _ f_74 ?_)))
   clear f_8 f_72 f_73 f_74
   have ap_r_cb19_0_r_cb11_0 := ap_comm ap_r_cb11_0_r_cb19_0
   have hwl := ow.rise.len
   refine zF (zD (K22 (yD .i64 ((j : Nat) : Int) (((mm).length : Nat) : Int) (j < (mm).length) rfl (cmpN_lt j ((mm).length))) ?_ ?_))
   ·intro h186
    replace h186 : j < (mm).length := by omega
    refine zE (zA (zF (K11 zS (zV (zA (zF (yP (zF (zD ?_)))))))))
    have hz := yT mm j (by omega); obtain ⟨x187, hx188⟩ := hz
    have hz := (r_x30_2.rd).at (k := 3) (fun _ => rfl) hx188
    obtain ⟨g189, off190, hl191, hc192⟩ := hz
    have hmr_x187 := om _ (List.mem_of_getElem? hx188)
    refine K21 (xE (k := .i64) v_x30_2 j _ g189 off190 el42 hl191 (by omega)) (K32 (yH g189 (off190 + j * 3) [(.int .i32 x187.1), (.int .i32 x187.2.1), (.int .u8 x187.2.2)]) hc192 (K21 (yW (fun b => .pointer (some ⟨b, 0, none⟩)) (.cells [(.int .i32 0), (.int .i32 0), (.int .u8 0)].toArray 45 (0, 0))) ?_))
    intro b193 w194 hN195
    have g_x14 : w.heap.size ≤ b193 := by rw [hN195.num]; exact hs
    have nb_o_x14_r_x30_2 := r_x30_2.new_ne hN195
    replace hb := hb.trans (hN195.below.mono hs)
    replace hs := Nat.le_trans hs (hN195.below.size)
    replace o_cb11 := zB o_cb11 hN195.below
    replace o_cb15 := zB o_cb15 hN195.below
    replace o_cb19 := zB o_cb19 hN195.below
    replace o_x30 := zB o_x30 hN195.below
    replace o_x8 := zB o_x8 hN195.below
    replace r_q2 := r_q2.below hN195.below
    replace r_b28 := r_b28.below hN195.below
    replace r_cb11_0 := r_cb11_0.below hN195.below
    replace r_cb15_0 := r_cb15_0.below hN195.below
    replace r_x30_2 := r_x30_2.below hN195.below
    replace r_cb19_0 := r_cb19_0.below hN195.below
    have o_x14 := hN195.here
    refine K26 (yX b193 0 [(.int .i32 x187.1), (.int .i32 x187.2.1), (.int .u8 x187.2.2)] [(.int .i32 0), (.int .i32 0), (.int .u8 0)] [(.int .i32 x187.1), (.int .i32 x187.2.1), (.int .u8 x187.2.2)] 45) rfl (by kernel_rfl) o_x14 (by kernel_rfl) rfl ?_
    intro w196 hW197
    replace hb := hb.trans (hW197.below g_x14)
    replace hs := Nat.le_trans hs (Nat.le_of_eq hW197.size.symm)
    replace o_cb11 := zL o_cb11 hW197 (zT o_cb11 o_x14 (by simp))
    replace o_cb15 := zL o_cb15 hW197 (zT o_cb15 o_x14 (by simp))
    replace o_cb19 := zL o_cb19 hW197 (zT o_cb19 o_x14 (by simp))
    replace o_x30 := zL o_x30 hW197 (zT o_x30 o_x14 (by simp))
    replace o_x8 := zL o_x8 hW197 (zT o_x8 o_x14 (by simp))
    replace r_q2 := r_q2.wrote hW197 (r_q2.ne o_x14 (by simp))
    replace r_b28 := r_b28.wrote hW197 (r_b28.ne o_x14 (by simp))
    replace r_cb11_0 := r_cb11_0.wrote hW197 (r_cb11_0.ne o_x14 (by simp))
    replace r_cb15_0 := r_cb15_0.wrote hW197 (r_cb15_0.ne o_x14 (by simp))
    replace r_x30_2 := r_x30_2.wrote hW197 nb_o_x14_r_x30_2
    replace r_cb19_0 := r_cb19_0.wrote hW197 (r_cb19_0.ne o_x14 (by simp))
    replace o_x14 := hW197.here
    refine zE (zA (W_pre 8 9 1 (by kernel_rfl) (by kernel_rfl) (by kernel_rfl) (by kernel_rfl) (by kernel_rfl) (by kernel_rfl) (by kernel_rfl) (K13 (yY b23 0 (.pointer (some ⟨b20, 0, none⟩))) (fun _ => by kernel_rfl) (zM o_x8 rfl) (yS (.pointer (some ⟨b20, 0, none⟩)) (fun _ => by kernel_rfl) (yS (.pointer (some ⟨b20, 3, none⟩)) (fun _ => by kernel_rfl) (K13 (yY b20 3 (.pointer (some ⟨cb19, 0, none⟩))) (fun _ => by kernel_rfl) (zM o_x30 rfl) (yS (.pointer (some ⟨b193, 0, none⟩)) (fun _ => by kernel_rfl) (K14 (Lq_loadA b193 0 [(.int .i32 x187.1), (.int .i32 x187.2.1)]) (fun _ => by kernel_rfl) (fun _ => by kernel_rfl) (K10 (yN o_x14 0)) (yS (.pointer (some ⟨b193, 2, none⟩)) (fun _ => by kernel_rfl) (K13 (yY b193 2 (.int .u8 x187.2.2)) (fun _ => by kernel_rfl) (zM o_x14 rfl) (xF ?_)))))))))))
    intro w198 hB199
    replace hb := hb.trans (hB199.mono hs)
    replace hs := Nat.le_trans hs (hB199.size)
    replace o_cb11 := zB o_cb11 hB199
    replace o_cb15 := zB o_cb15 hB199
    replace o_cb19 := zB o_cb19 hB199
    replace o_x30 := zB o_x30 hB199
    replace o_x8 := zB o_x8 hB199
    replace o_x14 := zB o_x14 hB199
    replace r_q2 := r_q2.below hB199
    replace r_b28 := r_b28.below hB199
    replace r_cb11_0 := r_cb11_0.below hB199
    replace r_cb15_0 := r_cb15_0.below hB199
    replace r_x30_2 := r_x30_2.below hB199
    replace r_cb19_0 := r_cb19_0.below hB199
    refine K11 (yJ 8) ?_
    refine yZ 8 rfl ?_ rfl
    refine K22 (yA 34 [(.pointer (some ⟨cb19, 0, none⟩)), (Value.agg #[(.int .i32 x187.1), (.int .i32 x187.2.1)]), (.int .u8 x187.2.2)]) (c_lay_C cb19 v_cb19_0 wh x187.1 x187.2.1 x187.2.2 w.heap.size _ hs o_cb19 g_cb19 r_cb19_0 (by exact ow.rise) (by omega) (by omega)) ?_
    rintro _ w201 ⟨q200, rfl, ho204, r_q200, dm202, hC203⟩
    replace hb := hC203.below hb hs (fun k e => e.elim (fun x => x ▸ g_cb19) (fun x => (World.ownsRow.lt r_cb19_0 k x).1))
    replace hs := Nat.le_trans hs hC203.size
    have n_o_cb11 := yL o_cb11 hC203 ne_cb11_cb19 (r_cb19_0.ne o_cb11 (by simp))
    have n_o_cb15 := yL o_cb15 hC203 (zT o_cb15 o_cb19 (by simp)) (r_cb19_0.ne o_cb15 (by simp))
    have n_o_x30 := yL o_x30 hC203 (zT o_x30 o_cb19 (by simp)) (r_cb19_0.ne o_x30 (by simp))
    have n_o_x8 := yL o_x8 hC203 (zT o_x8 o_cb19 (by simp)) (r_cb19_0.ne o_x8 (by simp))
    have n_o_x14 := yL o_x14 hC203 (zT o_x14 o_cb19 (by simp)) (r_cb19_0.ne o_x14 (by simp))
    have n_r_q2 := NRow.ch_mut r_q2 hC203 (r_q2.ne o_cb19 (by simp)) (r_q2.apart r_cb19_0 (by kernel_rfl))
    have n_r_b28 := r_b28.ch_mut hC203 (r_b28.ne o_cb19 (by simp)) (r_b28.apart r_cb19_0 (by kernel_rfl))
    have ap_r_cb11_0_r_q200 := ap_mut r_cb11_0 dm202 (r_cb11_0.ne o_cb19 (by simp)) ap_r_cb11_0_r_cb19_0; have ap_r_q200_r_cb11_0 := ap_comm ap_r_cb11_0_r_q200
    have n_r_cb11_0 := r_cb11_0.ch_mut hC203 (r_cb11_0.ne o_cb19 (by simp)) ap_r_cb11_0_r_cb19_0
    have n_r_cb15_0 := r_cb15_0.ch_mut hC203 (r_cb15_0.ne o_cb19 (by simp)) (r_cb15_0.apart r_cb19_0 (by kernel_rfl))
    have n_r_x30_2 := r_x30_2.ch_mut hC203 (r_x30_2.ne o_cb19 (by simp)) (r_x30_2.apart r_cb19_0 (by kernel_rfl))
    replace o_cb11 := n_o_cb11; clear n_o_cb11
    replace o_cb15 := n_o_cb15; clear n_o_cb15
    replace o_x30 := n_o_x30; clear n_o_x30
    replace o_x8 := n_o_x8; clear n_o_x8
    replace r_q2 := n_r_q2; clear n_r_q2
    replace r_b28 := n_r_b28; clear n_r_b28
    replace r_cb11_0 := n_r_cb11_0; clear n_r_cb11_0
    replace r_cb15_0 := n_r_cb15_0; clear n_r_cb15_0
    replace r_x30_2 := n_r_x30_2; clear n_r_x30_2
    replace o_cb19 := ho204
    refine zE ?_
    refine ⟨rfl, ?_⟩
    refine K11 yQ ?_
    refine zP (zA (zD (K21 (xD j 1 (by omega)) (zI (zE ?_)))))
    refine zA ⟨_, ?_, (j + 1), (layF eqC wh x187.1 x187.2.1 x187.2.2), q200, rfl, hds, by kernel_rfl, by kernel_rfl, by kernel_rfl, by kernel_rfl, r_q2, r_b28, r_cb11_0, r_cb15_0, r_x30_2, r_q200, o_cb11, o_cb15, o_cb19, o_x30, o_x8, ap_r_cb11_0_r_q200, hb, hs, ?_, ?_, ?_⟩
    ·omega
    ·omega
    ·rw [j2]; exact lay_take (by assumption)
    ·exact ow.lay eqI_law _ _ _
   ·intro h205
    replace h205 : (mm).length ≤ j := by omega
    refine zE (zA (zF (K11 zN (W_exit (yM (yM (xM (zA (zF (zF (zD (K22 (zZ b23 0 (.pointer (some ⟨b20, 0, none⟩))) (zM o_x8 rfl) (K21 (zQ (.pointer (some ⟨b20, 0, none⟩))) (K21 (zQ (.pointer (some ⟨b20, 0, none⟩))) (K22 (zZ b20 0 (.pointer (some ⟨cb11, 0, none⟩))) (zM o_x30 rfl) (K22 (yA 35 [(.pointer (some ⟨cb11, 0, none⟩))]) (c_all_C cb11 v_cb11_0 am _ o_cb11 r_cb11_0.rd) ?_))))))))))))))))
    rintro _ w206 ⟨cb209, rfl, o_cb209, g_cb209, hB207⟩
    replace g_cb209 := Nat.le_trans hs g_cb209
    replace hb := hb.trans (hB207.mono hs)
    replace hs := Nat.le_trans hs (hB207.size)
    replace o_cb11 := zB o_cb11 hB207
    replace o_cb15 := zB o_cb15 hB207
    replace o_cb19 := zB o_cb19 hB207
    replace o_x30 := zB o_x30 hB207
    replace o_x8 := zB o_x8 hB207
    replace r_q2 := r_q2.below hB207
    replace r_b28 := r_b28.below hB207
    replace r_cb11_0 := r_cb11_0.below hB207
    replace r_cb15_0 := r_cb15_0.below hB207
    replace r_x30_2 := r_x30_2.below hB207
    replace r_cb19_0 := r_cb19_0.below hB207
    refine zE (zA (yP ?_))
    have lt_cb11_0 : cb11 < w206.heap.size := yR o_cb11
    have lt_cb15_0 : cb15 < w206.heap.size := yR o_cb15
    have lt_cb19_0 : cb19 < w206.heap.size := yR o_cb19
    have lt_x30_0 : b20 < w206.heap.size := yR o_x30
    have lt_x8_0 : b23 < w206.heap.size := yR o_x8
    have lt_cb209_0 : cb209 < w206.heap.size := yR o_cb209
    have hs_0 := hs
    have hb_0 := hb
    refine W_range 68 [(.pointer (some ⟨cb209, 0, none⟩))] am (by kernel_rfl) (fun _ _ => rfl) (it_all_C cb209 cb11 v_cb11_0 am (by omega)) ⟨o_cb209, o_cb11, r_cb11_0.rd⟩ ((fun D A B h hc hd => ⟨yG h.1 hc (fun h => Nat.not_lt.2 (hd _ h) lt_cb209_0), yG h.2.1 hc (fun h => Nat.not_lt.2 (hd _ h) lt_cb11_0), Rd.ch r_cb11_0.rd (Nat.le_refl _) h.2.2 hc hd⟩)) (by intro x; rfl) (fun K pre A => ∃ (wh : List SpI) (v_cb19_0 : Value), (A.heap[cb11]? = some (.cells [v_cb11_0, (.bool true)].toArray 115 (0, 0))) ∧ (A.heap[cb15]? = some (.cells [v_cb15_0, (.bool true)].toArray 118 (0, 0))) ∧ (A.heap[cb19]? = some (.cells [v_cb19_0, (.bool true)].toArray 115 (0, 0))) ∧ (A.heap[b20]? = some (.cells [(.pointer (some ⟨cb11, 0, none⟩)), (.pointer (some ⟨cb15, 0, none⟩)), v_x30_2, (.pointer (some ⟨cb19, 0, none⟩))].toArray 66 (0, 0))) ∧ (A.heap[b23]? = some (.cells [(.pointer (some ⟨b20, 0, none⟩))].toArray 23 (0, 0))) ∧ (A.heap[cb209]? = some (.cells [(.pointer (some ⟨cb11, 0, none⟩))].toArray 61 (0, 0))) ∧ (NRow 9 A w.heap.size 72 5 encLine q2 l6) ∧ (∀ g, NOwn q2 l6 g → ¬ Iv w206.heap.size K g) ∧ (Row A w.heap.size 67 1 encVal (.slice (some ⟨b28, 0, none⟩) 4 4) ([(.func (.func 30) #[(.pointer (some ⟨b20, 0, none⟩))] #[]), (.func (.func 31) #[(.pointer (some ⟨b20, 0, none⟩))] #[]), (.func (.func 32) #[(.pointer (some ⟨b20, 0, none⟩))] #[]), (.func (.func 33) #[(.pointer (some ⟨b20, 0, none⟩))] #[])] : List (Value))) ∧ (∀ g, Value.ownBlock (.slice (some ⟨b28, 0, none⟩) 4 4) = some g → ¬ Iv w206.heap.size K g) ∧ (Row A w.heap.size 126 3 encSpanC v_cb11_0 am) ∧ (∀ g, Value.ownBlock v_cb11_0 = some g → ¬ Iv w206.heap.size K g) ∧ (Row A w.heap.size 131 3 encSpanI v_cb15_0 lm) ∧ (∀ g, Value.ownBlock v_cb15_0 = some g → ¬ Iv w206.heap.size K g) ∧ (Row A w.heap.size 45 3 encSpanC v_x30_2 mm) ∧ (∀ g, Value.ownBlock v_x30_2 = some g → ¬ Iv w206.heap.size K g) ∧ (Row A w.heap.size 126 3 encSpanC v_cb19_0 wh) ∧ (∀ g, Value.ownBlock v_cb19_0 = some g → ¬ Iv w206.heap.size K g) ∧ (Value.ownBlock v_cb11_0 = none ∨ Value.ownBlock v_cb11_0 ≠ Value.ownBlock v_cb19_0) ∧ (Value.ownBlock v_cb19_0 = none ∨ Value.ownBlock v_cb19_0 ≠ Value.ownBlock v_cb11_0) ∧ (Below w.heap.size w A) ∧ (wh = layAll eqI (layAll eqI (layF eqC [] 0 1114111 1) mm) pre) ∧ (MapOk eqI wh)) (fun K c pre A => False) ?_ ?_ ?_ ?_ ?_ ?_
    ·intro A hA
     exact ⟨wh, v_cb19_0, zB o_cb11 hA, zB o_cb15 hA, zB o_cb19 hA, zB o_x30 hA, zB o_x8 hA, zB o_cb209 hA, r_q2.below hA, nrN_old r_q2 _, r_b28.below hA, nr_old r_b28 _, r_cb11_0.below hA, nr_old r_cb11_0 _, r_cb15_0.below hA, nr_old r_cb15_0 _, r_x30_2.below hA, nr_old r_x30_2 _, r_cb19_0.below hA, nr_old r_cb19_0 _, ap_r_cb11_0_r_cb19_0, ap_r_cb19_0_r_cb11_0, hb.trans (hA.mono hs), by rw [j2, List.take_of_length_le (by omega)]; rfl, by exact ow⟩
    ·rintro K pre A B ⟨wh, v_cb19_0, o_cb11, o_cb15, o_cb19, o_x30, o_x8, o_cb209, r_q2, nr_r_q2, r_b28, nr_r_b28, r_cb11_0, nr_r_cb11_0, r_cb15_0, nr_r_cb15_0, r_x30_2, nr_r_x30_2, r_cb19_0, nr_r_cb19_0, ap_r_cb11_0_r_cb19_0, ap_r_cb19_0_r_cb11_0, hb, r1, ow⟩ hc
     exact ⟨wh, v_cb19_0, yG o_cb11 hc (fun h => Nat.not_lt.2 h.1 lt_cb11_0), yG o_cb15 hc (fun h => Nat.not_lt.2 h.1 lt_cb15_0), yG o_cb19 hc (fun h => Nat.not_lt.2 h.1 lt_cb19_0), yG o_x30 hc (fun h => Nat.not_lt.2 h.1 lt_x30_0), yG o_x8 hc (fun h => Nat.not_lt.2 h.1 lt_x8_0), yG o_cb209 hc (fun h => Nat.not_lt.2 h.1 lt_cb209_0), r_q2.ch hc nr_r_q2, nr_r_q2, r_b28.ch hc nr_r_b28, nr_r_b28, r_cb11_0.ch hc nr_r_cb11_0, nr_r_cb11_0, r_cb15_0.ch hc nr_r_cb15_0, nr_r_cb15_0, r_x30_2.ch hc nr_r_x30_2, nr_r_x30_2, r_cb19_0.ch hc nr_r_cb19_0, nr_r_cb19_0, ap_r_cb11_0_r_cb19_0, ap_r_cb19_0_r_cb11_0, hc.below hb hb.size (fun k h => Nat.le_trans hs_0 h.1), r1, ow⟩
    ·intro K c _ A B h hc; exact h.elim
    ·intro l K pre x A hi hN hK0 hK hpre
     obtain ⟨wh, v_cb19_0, o_cb11, o_cb15, o_cb19, o_x30, o_x8, o_cb209, r_q2, nr_r_q2, r_b28, nr_r_b28, r_cb11_0, nr_r_cb11_0, r_cb15_0, nr_r_cb15_0, r_x30_2, nr_r_x30_2, r_cb19_0, nr_r_cb19_0, ap_r_cb11_0_r_cb19_0, ap_r_cb19_0_r_cb11_0, hb, r1, ow⟩ := hi
     have hs := hb.size
     have hk := Kp.refl (w206.heap.size) K A
     have nv_cb11 : ¬ Iv (w206.heap.size) K cb11 := fun h => Nat.not_lt.2 h.1 lt_cb11_0
     have nv_cb15 : ¬ Iv (w206.heap.size) K cb15 := fun h => Nat.not_lt.2 h.1 lt_cb15_0
     have nv_cb19 : ¬ Iv (w206.heap.size) K cb19 := fun h => Nat.not_lt.2 h.1 lt_cb19_0
     have nv_x30 : ¬ Iv (w206.heap.size) K b20 := fun h => Nat.not_lt.2 h.1 lt_x30_0
     have nv_x8 : ¬ Iv (w206.heap.size) K b23 := fun h => Nat.not_lt.2 h.1 lt_x8_0
     have nv_cb209 : ¬ Iv (w206.heap.size) K cb209 := fun h => Nat.not_lt.2 h.1 lt_cb209_0
     replace o_cb209 := hN.1
     replace o_cb11 := hN.2.1
     have hwl := ow.rise.len
     have hrx := oa.rise.pre hpre
     refine zF (zD (K21 (yW (fun b => .pointer (some ⟨b, 0, none⟩)) (.cells [(.int .i32 0), (.int .i32 0)].toArray 32 (0, 0))) ?_))
     intro b210 w211 hN212
     have g_x15 : w.heap.size ≤ b210 := by rw [hN212.num]; exact hs
     have nv_x15 : ¬ Iv w206.heap.size K b210 := fun h => by have := h.2; have := hN212.num; omega
     replace hb := hb.trans (hN212.below.mono hs)
     replace hk := hk.ch (Ch.of_below hN212.below) hK (fun _ h => h.elim)
     replace hK := Nat.le_trans hK (hN212.below.size)
     replace hs := Nat.le_trans hs (hN212.below.size)
     replace o_cb11 := zB o_cb11 hN212.below
     replace o_cb15 := zB o_cb15 hN212.below
     replace o_cb19 := zB o_cb19 hN212.below
     replace o_x30 := zB o_x30 hN212.below
     replace o_x8 := zB o_x8 hN212.below
     replace o_cb209 := zB o_cb209 hN212.below
     replace r_q2 := r_q2.below hN212.below
     replace r_b28 := r_b28.below hN212.below
     replace r_cb11_0 := r_cb11_0.below hN212.below
     replace r_cb15_0 := r_cb15_0.below hN212.below
     replace r_x30_2 := r_x30_2.below hN212.below
     replace r_cb19_0 := r_cb19_0.below hN212.below
     have o_x15 := hN212.here
     refine K26 (yX b210 0 [(.int .i32 x.1), (.int .i32 x.2.1)] [(.int .i32 0), (.int .i32 0)] [(.int .i32 x.1), (.int .i32 x.2.1)] 32) rfl (by kernel_rfl) o_x15 (by kernel_rfl) rfl ?_
     intro w213 hW214
     replace hb := hb.trans (hW214.below g_x15)
     replace hk := hk.ch (Ch.of_wrote hW214) hK (fun k e h => nv_x15 (e ▸ h))
     replace hK := Nat.le_trans hK (Nat.le_of_eq hW214.size.symm)
     replace hs := Nat.le_trans hs (Nat.le_of_eq hW214.size.symm)
     replace o_cb11 := zL o_cb11 hW214 (zT o_cb11 o_x15 (by simp))
     replace o_cb15 := zL o_cb15 hW214 (zT o_cb15 o_x15 (by simp))
     replace o_cb19 := zL o_cb19 hW214 (zT o_cb19 o_x15 (by simp))
     replace o_x30 := zL o_x30 hW214 (zT o_x30 o_x15 (by simp))
     replace o_x8 := zL o_x8 hW214 (zT o_x8 o_x15 (by simp))
     replace o_cb209 := zL o_cb209 hW214 (zT o_cb209 o_x15 (by simp))
     replace r_q2 := r_q2.wrote hW214 (r_q2.ne o_x15 (by simp))
     replace r_b28 := r_b28.wrote hW214 (r_b28.ne o_x15 (by simp))
     replace r_cb11_0 := r_cb11_0.wrote hW214 (r_cb11_0.ne o_x15 (by simp))
     replace r_cb15_0 := r_cb15_0.wrote hW214 (r_cb15_0.ne o_x15 (by simp))
     replace r_x30_2 := r_x30_2.wrote hW214 (r_x30_2.ne o_x15 (by simp))
     replace r_cb19_0 := r_cb19_0.wrote hW214 (r_cb19_0.ne o_x15 (by simp))
     replace o_x15 := hW214.here
     refine zE (zA (zD (zJ (zE ?_))))
     refine zA ⟨hk, ?_⟩
     intro w215 hc216
     replace o_cb11 := yG o_cb11 hc216 nv_cb11
     replace o_cb15 := yG o_cb15 hc216 nv_cb15
     replace o_cb19 := yG o_cb19 hc216 nv_cb19
     replace o_x30 := yG o_x30 hc216 nv_x30
     replace o_x8 := yG o_x8 hc216 nv_x8
     replace o_cb209 := yG o_cb209 hc216 nv_cb209
     replace o_x15 := yG o_x15 hc216 nv_x15
     replace r_q2 := r_q2.ch hc216 nr_r_q2
     replace r_b28 := r_b28.ch hc216 nr_r_b28
     replace r_cb11_0 := r_cb11_0.ch hc216 nr_r_cb11_0
     replace r_cb15_0 := r_cb15_0.ch hc216 nr_r_cb15_0
     replace r_x30_2 := r_x30_2.ch hc216 nr_r_x30_2
     replace r_cb19_0 := r_cb19_0.ch hc216 nr_r_cb19_0
     replace hb := hc216.below hb hs (fun k h => Nat.le_trans hs_0 h.1)
     replace hs := hb.size
     replace hK := Nat.le_trans hK hc216.size
     replace hk := Kp.refl (w206.heap.size) K w215
     refine yP (W_pre 6 7 1 (by kernel_rfl) (by kernel_rfl) (by kernel_rfl) (by kernel_rfl) (by kernel_rfl) (by kernel_rfl) (by kernel_rfl) (K13 (yY b23 0 (.pointer (some ⟨b20, 0, none⟩))) (fun _ => by kernel_rfl) (zM o_x8 rfl) (yS (.pointer (some ⟨b20, 0, none⟩)) (fun _ => by kernel_rfl) (yS (.pointer (some ⟨b20, 3, none⟩)) (fun _ => by kernel_rfl) (K13 (yY b20 3 (.pointer (some ⟨cb19, 0, none⟩))) (fun _ => by kernel_rfl) (zM o_x30 rfl) (K14 (Lq_loadA b210 0 [(.int .i32 x.1), (.int .i32 x.2.1)]) (fun _ => by kernel_rfl) (fun _ => by kernel_rfl) (K10 (yN o_x15 0)) (yI (xF ?_))))))))
     intro w217 hB218
     replace hb := hb.trans (hB218.mono hs)
     replace hk := hk.ch (Ch.of_below hB218) hK (fun _ h => h.elim)
     replace hK := Nat.le_trans hK (hB218.size)
     replace hs := Nat.le_trans hs (hB218.size)
     replace o_cb11 := zB o_cb11 hB218
     replace o_cb15 := zB o_cb15 hB218
     replace o_cb19 := zB o_cb19 hB218
     replace o_x30 := zB o_x30 hB218
     replace o_x8 := zB o_x8 hB218
     replace o_cb209 := zB o_cb209 hB218
     replace o_x15 := zB o_x15 hB218
     replace r_q2 := r_q2.below hB218
     replace r_b28 := r_b28.below hB218
     replace r_cb11_0 := r_cb11_0.below hB218
     replace r_cb15_0 := r_cb15_0.below hB218
     replace r_x30_2 := r_x30_2.below hB218
     replace r_cb19_0 := r_cb19_0.below hB218
     refine K11 (yJ 6) ?_
     refine yZ 6 rfl ?_ rfl
     refine K22 (yA 34 [(.pointer (some ⟨cb19, 0, none⟩)), (Value.agg #[(.int .i32 x.1), (.int .i32 x.2.1)]), (.int .u8 x.2.2)]) (c_lay_C cb19 v_cb19_0 wh x.1 x.2.1 x.2.2 w.heap.size _ hs o_cb19 g_cb19 r_cb19_0 (by exact ow.rise) (by omega) (by omega)) ?_
     rintro _ w220 ⟨q219, rfl, ho223, r_q219, dm221, hC222⟩
     have hnk : ∀ k, Dm cb19 v_cb19_0 k → ¬ Iv (w206.heap.size) K k := fun k e => e.elim (fun x => by rw [x]; exact nv_cb19) (fun x => nr_r_cb19_0 k x)
     have nr_r_q219 : ∀ g, Value.ownBlock q219 = some g → ¬ Iv (w206.heap.size) K g := fun g hg => (dm221 g hg).elim (fun x y => by have := y.2; omega) (fun e => hnk g e)
     replace hk := hk.ch hC222 hK hnk
     replace hK := Nat.le_trans hK hC222.size
     replace hb := hC222.below hb hs (fun k e => e.elim (fun x => x ▸ g_cb19) (fun x => (World.ownsRow.lt r_cb19_0 k x).1))
     replace hs := Nat.le_trans hs hC222.size
     have n_o_cb11 := yL o_cb11 hC222 ne_cb11_cb19 (r_cb19_0.ne o_cb11 (by simp))
     have n_o_cb15 := yL o_cb15 hC222 (zT o_cb15 o_cb19 (by simp)) (r_cb19_0.ne o_cb15 (by simp))
     have n_o_x30 := yL o_x30 hC222 (zT o_x30 o_cb19 (by simp)) (r_cb19_0.ne o_x30 (by simp))
     have n_o_x8 := yL o_x8 hC222 (zT o_x8 o_cb19 (by simp)) (r_cb19_0.ne o_x8 (by simp))
     have n_o_cb209 := yL o_cb209 hC222 (zT o_cb209 o_cb19 (by simp)) (r_cb19_0.ne o_cb209 (by simp))
     have n_o_x15 := yL o_x15 hC222 (zT o_x15 o_cb19 (by simp)) (r_cb19_0.ne o_x15 (by simp))
     have n_r_q2 := NRow.ch_mut r_q2 hC222 (r_q2.ne o_cb19 (by simp)) (r_q2.apart r_cb19_0 (by kernel_rfl))
     have n_r_b28 := r_b28.ch_mut hC222 (r_b28.ne o_cb19 (by simp)) (r_b28.apart r_cb19_0 (by kernel_rfl))
     have ap_r_cb11_0_r_q219 := ap_mut r_cb11_0 dm221 (r_cb11_0.ne o_cb19 (by simp)) ap_r_cb11_0_r_cb19_0; have ap_r_q219_r_cb11_0 := ap_comm ap_r_cb11_0_r_q219
     have n_r_cb11_0 := r_cb11_0.ch_mut hC222 (r_cb11_0.ne o_cb19 (by simp)) ap_r_cb11_0_r_cb19_0
     have n_r_cb15_0 := r_cb15_0.ch_mut hC222 (r_cb15_0.ne o_cb19 (by simp)) (r_cb15_0.apart r_cb19_0 (by kernel_rfl))
     have n_r_x30_2 := r_x30_2.ch_mut hC222 (r_x30_2.ne o_cb19 (by simp)) (r_x30_2.apart r_cb19_0 (by kernel_rfl))
     replace o_cb11 := n_o_cb11; clear n_o_cb11
     replace o_cb15 := n_o_cb15; clear n_o_cb15
     replace o_x30 := n_o_x30; clear n_o_x30
     replace o_x8 := n_o_x8; clear n_o_x8
     replace o_cb209 := n_o_cb209; clear n_o_cb209
     replace r_q2 := n_r_q2; clear n_r_q2
     replace r_b28 := n_r_b28; clear n_r_b28
     replace r_cb11_0 := n_r_cb11_0; clear n_r_cb11_0
     replace r_cb15_0 := n_r_cb15_0; clear n_r_cb15_0
     replace r_x30_2 := n_r_x30_2; clear n_r_x30_2
     replace o_cb19 := ho223
     refine zE ?_
     refine ⟨rfl, ?_⟩
     refine K11 yQ ?_
     refine zP ?_
     refine round_normal hk ⟨o_cb209, o_cb11, r_cb11_0.rd⟩ ⟨(layF eqC wh x.1 x.2.1 x.2.2), q219, o_cb11, o_cb15, o_cb19, o_x30, o_x8, o_cb209, r_q2, nr_r_q2, r_b28, nr_r_b28, r_cb11_0, nr_r_cb11_0, r_cb15_0, nr_r_cb15_0, r_x30_2, nr_r_x30_2, r_q219, nr_r_q219, ap_r_cb11_0_r_q219, ap_r_q219_r_cb11_0, hb, ?_, ?_⟩
     ·rw [r1]; exact (layAll_snoc _ _ _).symm
     ·exact ow.lay eqI_law _ _ _
    ·intro K A hi hsz o_D0
     obtain ⟨wh, v_cb19_0, o_cb11, o_cb15, o_cb19, o_x30, o_x8, o_cb209, r_q2, nr_r_q2, r_b28, nr_r_b28, r_cb11_0, nr_r_cb11_0, r_cb15_0, nr_r_cb15_0, r_x30_2, nr_r_x30_2, r_cb19_0, nr_r_cb19_0, ap_r_cb11_0_r_cb19_0, ap_r_cb19_0_r_cb11_0, hb, r1, ow⟩ := hi
     have hs : w.heap.size ≤ _ := hb.size
     refine zP (zA (zF (zD (K22 (zZ b23 0 (.pointer (some ⟨b20, 0, none⟩))) (zM o_x8 rfl) (zJ (zJ (zE (zA (zX (end_retM (ds := [⟨.collected w206.heap.size, #[]⟩]) (congrArg (List.cons _) hds) (Lv_mark o_D0 ?_)))))))))))
     intro w224 hW225
     replace hb := hb.trans (hW225.below hs_0)
     replace hs := Nat.le_trans hs (Nat.le_of_eq hW225.size.symm)
     replace o_cb11 := zL o_cb11 hW225 (zT o_cb11 o_D0 (by simp))
     replace o_cb15 := zL o_cb15 hW225 (zT o_cb15 o_D0 (by simp))
     replace o_cb19 := zL o_cb19 hW225 (zT o_cb19 o_D0 (by simp))
     replace o_x30 := zL o_x30 hW225 (zT o_x30 o_D0 (by simp))
     replace r_cb11_0 := r_cb11_0.wrote hW225 (r_cb11_0.ne o_D0 (by simp))
     replace r_cb15_0 := r_cb15_0.wrote hW225 (r_cb15_0.ne o_D0 (by simp))
     replace r_x30_2 := r_x30_2.wrote hW225 (r_x30_2.ne o_D0 (by simp))
     replace r_cb19_0 := r_cb19_0.wrote hW225 (r_cb19_0.ne o_D0 (by simp))
     refine Lv_nil [.tmp 4, .tmp 5] [(.pointer (some ⟨b20, 0, none⟩)), .nilIface] rfl ⟨by kernel_rfl, by kernel_rfl, trivial⟩ ?_
     have hE : (mm = (clsF s).1.2.2) ∧ (am = (clsF s).1.1) ∧ (lm = (clsF s).1.2.1) ∧ (wh = (wholeF (clsF s).1)) := ⟨(by (rw [invC_end i3 (by omega)]; done)), (by (rw [invC_end i3 (by omega)]; done)), (by (rw [invC_end i3 (by omega)]; done)), (by (rw [invC_end i3 (by omega)]; exact r1))⟩
     exact ⟨v_x30_2, v_cb11_0, v_cb15_0, v_cb19_0, b20, cb11, cb15, cb19, xG (rfl) (rfl), r_x30_2.cast hE.1, r_cb11_0.cast hE.2.1, r_cb15_0.cast hE.2.2.1, r_cb19_0.cast hE.2.2.2, o_x30, g_x30, o_cb11, g_cb11, o_cb15, g_cb15, o_cb19, g_cb19, (zT o_x30 o_cb11 (by simp)), (zT o_x30 o_cb15 (by simp)), (zT o_x30 o_cb19 (by simp)), (zT o_cb11 o_cb15 (by simp)), ne_cb11_cb19, (zT o_cb15 o_cb19 (by simp)), hb⟩
    ·intro K c _ x A _ h; exact h.elim
 ·skip
  exfalso; exact hq1 (cls_ok1 hok)
theorem c_classes_Read_bad (f : List UInt8) (s : List UInt8) (w : World) {m_ml : Int} (hml : w.cell? ⟨1, 0, none⟩ = some (.int .i64 m_ml)) (hs : s.length ≤ 33554432) (hbad : (clsF s).2.2 ≠ 0) :
  Calls Tryz.prog 10 #[(S f), (S s)] w (Ret fun v w' => ∃ (cb0 : Nat), v = (.tuple #[(.pointer none), (.iface 73 (.pointer (some ⟨cb0, 0, none⟩)))]) ∧ w'.heap[cb0]? = some (.cells [(S f), (.int .i64 ((clsF s).2.1)), (.int .i64 ((clsF s).2.2))].toArray 75 (0, 0)) ∧ w.heap.size ≤ cb0 ∧ Below w.heap.size w w') := by
 refine K11 (enterM (args := [(S f), (S s)]) Tryz.func10 rfl (by kernel_rfl : _ = 103)) ?_
 have hb := Below.refl w.heap.size w
 have hs : w.heap.size ≤ w.heap.size := Nat.le_refl _
 refine zF (zD (zJ (zJ (zE (zA (zF (zD (zI (zI ?_)))))))))
 by_cases hq1 : (badL (toldF s)).2 = 0
 ·skip
  refine K22 (yA 27 [(S f), (S s)]) (c_lines_Read_ok f s _ (by omega) (by omega)) ?_
  rintro _ w3 ⟨l6, q2, rfl, r_q2, hx7, hB4⟩
  replace r_q2 := r_q2.base hs
  replace hb := hb.trans (hB4.mono hs)
  replace hs := Nat.le_trans hs (hB4.size)
  refine zI (K21 (zQ q2) (K21 (zQ .nilIface) (zJ (zJ (zE (zA (zF (zF (zD (zI (K21 (zQ (.bool false)) (zE (zA (K11 zN (zV (zA (zF (zD (K22 (yA 28 []) (c_new_C _) ?_)))))))))))))))))))
  rintro _ w8 ⟨cb11, rfl, o_cb11, g_cb11, hB9⟩
  replace g_cb11 := Nat.le_trans hs g_cb11
  replace hb := hb.trans (hB9.mono hs)
  replace hs := Nat.le_trans hs (hB9.size)
  replace r_q2 := r_q2.below hB9
  refine K22 (yA 29 []) (c_new_I _) ?_
  rintro _ w12 ⟨cb15, rfl, o_cb15, g_cb15, hB13⟩
  replace g_cb15 := Nat.le_trans hs g_cb15
  replace hb := hb.trans (hB13.mono hs)
  replace hs := Nat.le_trans hs (hB13.size)
  replace o_cb11 := zB o_cb11 hB13
  replace r_q2 := r_q2.below hB13
  refine K22 (yA 28 []) (c_new_C _) ?_
  rintro _ w16 ⟨cb19, rfl, o_cb19, g_cb19, hB17⟩
  have ne_cb11_cb19 : NE cb11 cb19 := by have := (yR o_cb11); show _ ≠ _; omega
  have ne_cb19_cb11 := NE.symm ne_cb11_cb19
  replace g_cb19 := Nat.le_trans hs g_cb19
  replace hb := hb.trans (hB17.mono hs)
  replace hs := Nat.le_trans hs (hB17.size)
  replace o_cb11 := zB o_cb11 hB17
  replace o_cb15 := zB o_cb15 hB17
  replace r_q2 := r_q2.below hB17
  refine K21 (zQ (Value.agg #[(.pointer (some ⟨cb11, 0, none⟩)), (.pointer (some ⟨cb15, 0, none⟩)), (.slice none 0 0), (.pointer (some ⟨cb19, 0, none⟩))])) (K21 (yW (fun b => .pointer (some ⟨b, 0, none⟩)) (.cells [(.pointer (some ⟨cb11, 0, none⟩)), (.pointer (some ⟨cb15, 0, none⟩)), (.slice none 0 0), (.pointer (some ⟨cb19, 0, none⟩))].toArray 66 (0, 0))) ?_)
  intro b20 w21 hN22
  have g_x30 : w.heap.size ≤ b20 := by rw [hN22.num]; exact hs
  replace hb := hb.trans (hN22.below.mono hs)
  replace hs := Nat.le_trans hs (hN22.below.size)
  replace o_cb11 := zB o_cb11 hN22.below
  replace o_cb15 := zB o_cb15 hN22.below
  replace o_cb19 := zB o_cb19 hN22.below
  replace r_q2 := r_q2.below hN22.below
  have o_x30 := hN22.here
  refine K21 (yW (fun b => .pointer (some ⟨b, 0, none⟩)) (.cells [(.pointer none)].toArray 23 (0, 0))) ?_
  intro b23 w24 hN25
  have g_x8 : w.heap.size ≤ b23 := by rw [hN25.num]; exact hs
  replace hb := hb.trans (hN25.below.mono hs)
  replace hs := Nat.le_trans hs (hN25.below.size)
  replace o_cb11 := zB o_cb11 hN25.below
  replace o_cb15 := zB o_cb15 hN25.below
  replace o_cb19 := zB o_cb19 hN25.below
  replace o_x30 := zB o_x30 hN25.below
  replace r_q2 := r_q2.below hN25.below
  have o_x8 := hN25.here
  refine K26 (xC b23 0 (.pointer (some ⟨b20, 0, none⟩)) [(.pointer none)] [(.pointer (some ⟨b20, 0, none⟩))] 23) rfl (by kernel_rfl) o_x8 (by simp) rfl ?_
  intro w26 hW27
  replace hb := hb.trans (hW27.below g_x8)
  replace hs := Nat.le_trans hs (Nat.le_of_eq hW27.size.symm)
  replace o_cb11 := zL o_cb11 hW27 (zT o_cb11 o_x8 (by simp))
  replace o_cb15 := zL o_cb15 hW27 (zT o_cb15 o_x8 (by simp))
  replace o_cb19 := zL o_cb19 hW27 (zT o_cb19 o_x8 (by simp))
  replace o_x30 := zL o_x30 hW27 (zT o_x30 o_x8 (by simp))
  replace r_q2 := r_q2.wrote hW27 (r_q2.ne o_x8 (by simp))
  replace o_x8 := hW27.here
  refine zE (zA (zF (zD (K22 (zZ b23 0 (.pointer (some ⟨b20, 0, none⟩))) (zM o_x8 rfl) (K21 (zQ (.func (.func 30) #[(.pointer (some ⟨b20, 0, none⟩))] #[])) (K22 (zZ b23 0 (.pointer (some ⟨b20, 0, none⟩))) (zM o_x8 rfl) (K21 (zQ (.func (.func 31) #[(.pointer (some ⟨b20, 0, none⟩))] #[])) (K22 (zZ b23 0 (.pointer (some ⟨b20, 0, none⟩))) (zM o_x8 rfl) (K21 (zQ (.func (.func 32) #[(.pointer (some ⟨b20, 0, none⟩))] #[])) (K22 (zZ b23 0 (.pointer (some ⟨b20, 0, none⟩))) (zM o_x8 rfl) (K21 (zQ (.func (.func 33) #[(.pointer (some ⟨b20, 0, none⟩))] #[])) (K21 (yW (fun b => .slice (some ⟨b, 0, none⟩) 4 4) (.cells [(.func (.func 30) #[(.pointer (some ⟨b20, 0, none⟩))] #[]), (.func (.func 31) #[(.pointer (some ⟨b20, 0, none⟩))] #[]), (.func (.func 32) #[(.pointer (some ⟨b20, 0, none⟩))] #[]), (.func (.func 33) #[(.pointer (some ⟨b20, 0, none⟩))] #[])].toArray 67 (0, 0))) ?_))))))))))))
  intro b28 w29 hN30
  have g_b28 : w.heap.size ≤ b28 := by rw [hN30.num]; exact hs
  replace hb := hb.trans (hN30.below.mono hs)
  replace hs := Nat.le_trans hs (hN30.below.size)
  replace o_cb11 := zB o_cb11 hN30.below
  replace o_cb15 := zB o_cb15 hN30.below
  replace o_cb19 := zB o_cb19 hN30.below
  replace o_x30 := zB o_x30 hN30.below
  replace o_x8 := zB o_x8 hN30.below
  replace r_q2 := r_q2.below hN30.below
  have r_b28 : Row w29 w.heap.size 67 1 encVal (.slice (some ⟨b28, 0, none⟩) 4 4) ([(.func (.func 30) #[(.pointer (some ⟨b20, 0, none⟩))] #[]), (.func (.func 31) #[(.pointer (some ⟨b20, 0, none⟩))] #[]), (.func (.func 32) #[(.pointer (some ⟨b20, 0, none⟩))] #[]), (.func (.func 33) #[(.pointer (some ⟨b20, 0, none⟩))] #[])] : List (Value)) := Row.made ([(.func (.func 30) #[(.pointer (some ⟨b20, 0, none⟩))] #[]), (.func (.func 31) #[(.pointer (some ⟨b20, 0, none⟩))] #[]), (.func (.func 32) #[(.pointer (some ⟨b20, 0, none⟩))] #[]), (.func (.func 33) #[(.pointer (some ⟨b20, 0, none⟩))] #[])] : List (Value)) hN30 g_b28 rfl rfl (by first | decide | (simp; done))
  refine zJ (zE (zA (zF (zF (zD (zI (K11 (L_len 58 72 (l6).length q2 rfl Tryz.underlying58 (r_q2.rd).len) (zI (zE (zA (yP ?_)))))))))))
  have hl := hx7
  have hll := lines_len hl
  have htl := told_len s
  refine W_loop (fun m s0 w0 => ∃ (i : Nat) (am : List SpI) (lm : List SpI) (mm : List SpI) (v_cb11_0 : Value) (v_cb15_0 : Value) (v_x30_2 : Value), (m = l6.length - i) ∧ (s0.ds = []) ∧ (s0.f 0 = (S f)) ∧ (s0.f 8 = (.pointer (some ⟨b23, 0, none⟩))) ∧ (s0.f 9 = (.slice (some ⟨b28, 0, none⟩) 4 4)) ∧ (s0.f 40 = q2) ∧ (s0.f 41 = (.int .i64 (((l6).length : Nat) : Int))) ∧ (s0.f 42 = (.int .i64 ((i : Nat) : Int))) ∧ (NRow 9 w0 w.heap.size 72 5 encLine q2 l6) ∧ (Row w0 w.heap.size 67 1 encVal (.slice (some ⟨b28, 0, none⟩) 4 4) ([(.func (.func 30) #[(.pointer (some ⟨b20, 0, none⟩))] #[]), (.func (.func 31) #[(.pointer (some ⟨b20, 0, none⟩))] #[]), (.func (.func 32) #[(.pointer (some ⟨b20, 0, none⟩))] #[]), (.func (.func 33) #[(.pointer (some ⟨b20, 0, none⟩))] #[])] : List (Value))) ∧ (Row w0 w.heap.size 126 3 encSpanC v_cb11_0 am) ∧ (Row w0 w.heap.size 131 3 encSpanI v_cb15_0 lm) ∧ (Row w0 w.heap.size 45 3 encSpanC v_x30_2 mm) ∧ (w0.heap[cb11]? = some (.cells [v_cb11_0, (.bool true)].toArray 115 (0, 0))) ∧ (w0.heap[cb15]? = some (.cells [v_cb15_0, (.bool true)].toArray 118 (0, 0))) ∧ (w0.heap[cb19]? = some (.cells [(.slice none 0 0), (.bool true)].toArray 115 (0, 0))) ∧ (w0.heap[b20]? = some (.cells [(.pointer (some ⟨cb11, 0, none⟩)), (.pointer (some ⟨cb15, 0, none⟩)), v_x30_2, (.pointer (some ⟨cb19, 0, none⟩))].toArray 66 (0, 0))) ∧ (w0.heap[b23]? = some (.cells [(.pointer (some ⟨b20, 0, none⟩))].toArray 23 (0, 0))) ∧ (Below w.heap.size w w0) ∧ (w.heap.size ≤ w0.heap.size) ∧ (i ≤ l6.length) ∧ (invC s l6 i (am, lm, mm)) ∧ (MapOk eqI am) ∧ (MapOk eqI lm) ∧ (mm.length ≤ i) ∧ (rngC mm)) _ ⟨0, [], [], [], (.slice none 0 0), (.slice none 0 0), (.slice none 0 0), rfl, by kernel_rfl, by kernel_rfl, by kernel_rfl, by kernel_rfl, by kernel_rfl, by kernel_rfl, by kernel_rfl, r_q2, r_b28, Row.nil _ _ _ _ _, Row.nil _ _ _ _ _, Row.nil _ _ _ _ _, o_cb11, o_cb15, o_cb19, o_x30, o_x8, hb, hs, (Nat.zero_le _), (invC_zero (by first | assumption | exact cls_ok1 hok) hl), MapOk.nil, MapOk.nil, (Nat.le_refl _), rng_nil⟩ ?_
  rintro m31 s32 w33 ⟨i, am, lm, mm, v_cb11_0, v_cb15_0, v_x30_2, hm, hds, f_0, f_8, f_9, f_40, f_41, f_42, r_q2, r_b28, r_cb11_0, r_cb15_0, r_x30_2, o_cb11, o_cb15, o_cb19, o_x30, o_x8, hb, hs, i1, i3, oa, ol, i4, om⟩
  refine yK 0 _ f_0 (yK 8 _ f_8 (yK 9 _ f_9 (yK 40 _ f_40 (yK 41 _ f_41 (yK 42 _ f_42 ?_)))))
  clear f_0 f_8 f_9 f_40 f_41 f_42
  have hal := oa.rise.len
  have hbl := ol.rise.len
  refine zF (zD (K22 (yD .i64 ((i : Nat) : Int) (((l6).length : Nat) : Int) (i < (l6).length) rfl (cmpN_lt i ((l6).length))) ?_ ?_))
  ·intro h34
   replace h34 : i < (l6).length := by omega
   refine zE (zA (zF (K11 zS (zV (zA (zF (yP (zF (zD ?_)))))))))
   have hz := yT l6 i (by omega); obtain ⟨x35, hx36⟩ := hz
   have hz := (r_q2.rd).at (k := 5) (fun _ => rfl) hx36
   obtain ⟨g37, off38, hl39, hc40⟩ := hz
   have hff_x35 := scan_ok (by omega) hl hx36
   have hkd_x35 := line_kind hl hx36
   refine K21 (xE (k := .i64) q2 i _ g37 off38 el58 hl39 (by omega)) ?_
   have r_in42 : Row w33 w.heap.size 9 1 encStr (LineV.v x35) (LineV.fs x35) := r_q2.inner (List.mem_of_getElem? hx36)
   refine K32 (yH g37 (off38 + i * 5) [(.int .i64 x35.1), (.int .u8 x35.2.1), (S x35.2.2.1), (LineV.v x35), (S x35.2.2.2.2)]) hc40 (K21 (yW (fun b => .pointer (some ⟨b, 0, none⟩)) (.cells [(.int .i64 0), (.int .u8 0), (S ([] : List UInt8)), (.slice none 0 0), (S ([] : List UInt8))].toArray 72 (0, 0))) ?_)
   intro b43 w44 hN45
   have g_x11 : w.heap.size ≤ b43 := by rw [hN45.num]; exact hs
   have nb_o_x11_r_q2 := r_q2.new_ne hN45
   replace hb := hb.trans (hN45.below.mono hs)
   replace hs := Nat.le_trans hs (hN45.below.size)
   replace o_cb11 := zB o_cb11 hN45.below
   replace o_cb15 := zB o_cb15 hN45.below
   replace o_cb19 := zB o_cb19 hN45.below
   replace o_x30 := zB o_x30 hN45.below
   replace o_x8 := zB o_x8 hN45.below
   replace r_q2 := r_q2.below hN45.below
   replace r_b28 := r_b28.below hN45.below
   replace r_cb11_0 := r_cb11_0.below hN45.below
   replace r_cb15_0 := r_cb15_0.below hN45.below
   replace r_x30_2 := r_x30_2.below hN45.below
   replace r_in42 := r_in42.below hN45.below
   have o_x11 := hN45.here
   refine K26 (yX b43 0 [(.int .i64 x35.1), (.int .u8 x35.2.1), (S x35.2.2.1), (LineV.v x35), (S x35.2.2.2.2)] [(.int .i64 0), (.int .u8 0), (S ([] : List UInt8)), (.slice none 0 0), (S ([] : List UInt8))] [(.int .i64 x35.1), (.int .u8 x35.2.1), (S x35.2.2.1), (LineV.v x35), (S x35.2.2.2.2)] 72) (allc rfl (allc rfl (allc rfl (allc r_in42.one (allc rfl rfl))))) (by kernel_rfl) o_x11 (by kernel_rfl) rfl ?_
   intro w46 hW47
   replace hb := hb.trans (hW47.below g_x11)
   replace hs := Nat.le_trans hs (Nat.le_of_eq hW47.size.symm)
   replace o_cb11 := zL o_cb11 hW47 (zT o_cb11 o_x11 (by simp))
   replace o_cb15 := zL o_cb15 hW47 (zT o_cb15 o_x11 (by simp))
   replace o_cb19 := zL o_cb19 hW47 (zT o_cb19 o_x11 (by simp))
   replace o_x30 := zL o_x30 hW47 (zT o_x30 o_x11 (by simp))
   replace o_x8 := zL o_x8 hW47 (zT o_x8 o_x11 (by simp))
   replace r_q2 := r_q2.wrote hW47 nb_o_x11_r_q2
   replace r_b28 := r_b28.wrote hW47 (r_b28.ne o_x11 (by simp))
   replace r_cb11_0 := r_cb11_0.wrote hW47 (r_cb11_0.ne o_x11 (by simp))
   replace r_cb15_0 := r_cb15_0.wrote hW47 (r_cb15_0.ne o_x11 (by simp))
   replace r_x30_2 := r_x30_2.wrote hW47 (r_x30_2.ne o_x11 (by simp))
   replace r_in42 := r_in42.wrote hW47 (r_in42.ne o_x11 (by simp))
   replace o_x11 := hW47.here
   refine zE (zA (zF (W_pre 6 8 2 (by kernel_rfl) (by kernel_rfl) (by kernel_rfl) (by kernel_rfl) (by kernel_rfl) (by kernel_rfl) (by kernel_rfl) (yI (yS (.pointer (some ⟨b43, 1, none⟩)) (fun _ => by kernel_rfl) (K13 (yY b43 1 (.int .u8 x35.2.1)) (fun _ => by kernel_rfl) (zM o_x11 rfl) ?_))))))
   have hz := yT ([(.func (.func 30) #[(.pointer (some ⟨b20, 0, none⟩))] #[]), (.func (.func 31) #[(.pointer (some ⟨b20, 0, none⟩))] #[]), (.func (.func 32) #[(.pointer (some ⟨b20, 0, none⟩))] #[]), (.func (.func 33) #[(.pointer (some ⟨b20, 0, none⟩))] #[])] : List (Value)) x35.2.1.toNat (by (simp only [List.length_cons, List.length_nil]; omega)); obtain ⟨x48, hx49⟩ := hz
   have hz := (r_b28.rd).at (k := 1) (fun _ => rfl) hx49
   obtain ⟨g50, off51, hl52, hc53⟩ := hz
   refine K21 (Lq_ixaddrZ (k := .u8) (.slice (some ⟨b28, 0, none⟩) 4 4) x35.2.1 x35.2.1.toNat _ g50 off51 (by omega) el68 hl52 (by (simp only [List.length_cons, List.length_nil]; omega))) ?_
   have hz := pick4 hx49
   rcases hz with ⟨hk54, he55⟩ | ⟨hk54, he55⟩ | ⟨hk54, he55⟩ | ⟨hk54, he55⟩
   ·subst he55
    have hkd : x35.2.1 = 0 := by omega
    refine K13 (yY g50 (off51 + x35.2.1.toNat * 1) (.func (.func 30) #[(.pointer (some ⟨b20, 0, none⟩))] #[])) (fun _ => by kernel_rfl) (hc53 0 _ rfl) (K14 (Lq_loadA b43 0 [(.int .i64 x35.1), (.int .u8 x35.2.1), (S x35.2.2.1), (LineV.v x35), (S x35.2.2.2.2)]) (fun _ => by kernel_rfl) (fun _ => by kernel_rfl) (K10 (yN o_x11 0)) (xF ?_))
    intro w56 hB57
    replace hb := hb.trans (hB57.mono hs)
    replace hs := Nat.le_trans hs (hB57.size)
    replace o_cb11 := zB o_cb11 hB57
    replace o_cb15 := zB o_cb15 hB57
    replace o_cb19 := zB o_cb19 hB57
    replace o_x30 := zB o_x30 hB57
    replace o_x8 := zB o_x8 hB57
    replace r_q2 := r_q2.below hB57
    replace r_b28 := r_b28.below hB57
    replace r_cb11_0 := r_cb11_0.below hB57
    replace r_cb15_0 := r_cb15_0.below hB57
    replace r_x30_2 := r_x30_2.below hB57
    refine K11 (yJ 6) ?_
    refine yZ 6 rfl ?_ rfl
    refine K21 (L_inline 30 [(.pointer (some ⟨b20, 0, none⟩)), (Value.agg #[(.int .i64 x35.1), (.int .u8 x35.2.1), (S x35.2.2.1), (LineV.v x35), (S x35.2.2.2.2)])]) ?_
    refine K11 (enter (args := [(.pointer (some ⟨b20, 0, none⟩)), (Value.agg #[(.int .i64 x35.1), (.int .u8 x35.2.1), (S x35.2.2.1), (LineV.v x35), (S x35.2.2.2.2)])]) Tryz.func30 rfl (by kernel_rfl : _ = 5)) ?_
    refine zF (zD (K21 (yW (fun b => .pointer (some ⟨b, 0, none⟩)) (.cells [(.int .i64 x35.1), (.int .u8 x35.2.1), (S x35.2.2.1), (LineV.v x35), (S x35.2.2.2.2)].toArray 72 (0, 0))) ?_))
    intro b58 w59 hN60
    have g_xi1_3 : w.heap.size ≤ b58 := by rw [hN60.num]; exact hs
    have nb_o_xi1_3_r_q2 := r_q2.new_ne hN60
    replace hb := hb.trans (hN60.below.mono hs)
    replace hs := Nat.le_trans hs (hN60.below.size)
    replace o_cb11 := zB o_cb11 hN60.below
    replace o_cb15 := zB o_cb15 hN60.below
    replace o_cb19 := zB o_cb19 hN60.below
    replace o_x30 := zB o_x30 hN60.below
    replace o_x8 := zB o_x8 hN60.below
    replace r_q2 := r_q2.below hN60.below
    replace r_b28 := r_b28.below hN60.below
    replace r_cb11_0 := r_cb11_0.below hN60.below
    replace r_cb15_0 := r_cb15_0.below hN60.below
    replace r_x30_2 := r_x30_2.below hN60.below
    refine zJ (zE (zA (zF (zD (zJ (zE (zA (zX ?_))))))))
    refine zO [.tmp 4] [(.int .i64 0)] rfl rfl ⟨by kernel_rfl, trivial⟩ ?_
    show L _ _ _ _ _ _ (Fm.put _ _ (.int .i64 0)) _
    refine zE ?_
    refine ⟨rfl, ?_⟩
    refine K44 (yE 7 (.int .i64 0) rfl) (zC (zG (zC (zC (zG (zC zK)))))) (by kernel_rfl) (fun _ => by kernel_rfl) ?_
    refine K11 yQ ?_
    refine zA (zF (zD (zI (K21 (zQ (.bool false)) (zE (zA (K11 zN (zV (zP (zA (zD (K21 (xD i 1 (by omega)) (zI (zE ?_))))))))))))))
    refine zA ⟨_, ?_, (i + 1), am, lm, mm, v_cb11_0, v_cb15_0, v_x30_2, rfl, hds, by kernel_rfl, by kernel_rfl, by kernel_rfl, by kernel_rfl, by kernel_rfl, by kernel_rfl, r_q2, r_b28, r_cb11_0, r_cb15_0, r_x30_2, o_cb11, o_cb15, o_cb19, o_x30, o_x8, hb, hs, ?_, ?_, ?_, ?_, ?_, ?_⟩
    ·omega
    ·omega
    ·exact invC_on i3 (by assumption) (st_blank (by assumption))
    ·exact oa
    ·exact ol
    ·omega
    ·first | exact om | exact rng_snoc om _ _ _
   ·subst he55
    have hkd : x35.2.1 = 1 := by omega
    refine K13 (yY g50 (off51 + x35.2.1.toNat * 1) (.func (.func 31) #[(.pointer (some ⟨b20, 0, none⟩))] #[])) (fun _ => by kernel_rfl) (hc53 0 _ rfl) (K14 (Lq_loadA b43 0 [(.int .i64 x35.1), (.int .u8 x35.2.1), (S x35.2.2.1), (LineV.v x35), (S x35.2.2.2.2)]) (fun _ => by kernel_rfl) (fun _ => by kernel_rfl) (K10 (yN o_x11 0)) (xF ?_))
    intro w61 hB62
    replace hb := hb.trans (hB62.mono hs)
    replace hs := Nat.le_trans hs (hB62.size)
    replace o_cb11 := zB o_cb11 hB62
    replace o_cb15 := zB o_cb15 hB62
    replace o_cb19 := zB o_cb19 hB62
    replace o_x30 := zB o_x30 hB62
    replace o_x8 := zB o_x8 hB62
    replace o_x11 := zB o_x11 hB62
    replace r_q2 := r_q2.below hB62
    replace r_b28 := r_b28.below hB62
    replace r_cb11_0 := r_cb11_0.below hB62
    replace r_cb15_0 := r_cb15_0.below hB62
    replace r_x30_2 := r_x30_2.below hB62
    replace r_in42 := r_in42.below hB62
    refine K11 (yJ 6) ?_
    refine yZ 6 rfl ?_ rfl
    refine K21 (L_inline 31 [(.pointer (some ⟨b20, 0, none⟩)), (Value.agg #[(.int .i64 x35.1), (.int .u8 x35.2.1), (S x35.2.2.1), (LineV.v x35), (S x35.2.2.2.2)])]) ?_
    refine K11 (enter (args := [(.pointer (some ⟨b20, 0, none⟩)), (Value.agg #[(.int .i64 x35.1), (.int .u8 x35.2.1), (S x35.2.2.1), (LineV.v x35), (S x35.2.2.2.2)])]) Tryz.func31 rfl (by kernel_rfl : _ = 36)) ?_
    refine zF (zD (K21 (yW (fun b => .pointer (some ⟨b, 0, none⟩)) (.cells [(.int .i64 x35.1), (.int .u8 x35.2.1), (S x35.2.2.1), (LineV.v x35), (S x35.2.2.2.2)].toArray 72 (0, 0))) ?_))
    intro b63 w64 hN65
    have g_xi2_3 : w.heap.size ≤ b63 := by rw [hN65.num]; exact hs
    have nb_o_xi2_3_r_q2 := r_q2.new_ne hN65
    replace hb := hb.trans (hN65.below.mono hs)
    replace hs := Nat.le_trans hs (hN65.below.size)
    replace o_cb11 := zB o_cb11 hN65.below
    replace o_cb15 := zB o_cb15 hN65.below
    replace o_cb19 := zB o_cb19 hN65.below
    replace o_x30 := zB o_x30 hN65.below
    replace o_x8 := zB o_x8 hN65.below
    replace o_x11 := zB o_x11 hN65.below
    replace r_q2 := r_q2.below hN65.below
    replace r_b28 := r_b28.below hN65.below
    replace r_cb11_0 := r_cb11_0.below hN65.below
    replace r_cb15_0 := r_cb15_0.below hN65.below
    replace r_x30_2 := r_x30_2.below hN65.below
    replace r_in42 := r_in42.below hN65.below
    have o_xi2_3 := hN65.here
    refine zJ (zE (zA (zF (zD (K32 (yH b63 0 [(.int .i64 x35.1), (.int .u8 x35.2.1), (S x35.2.2.1), (LineV.v x35), (S x35.2.2.2.2)]) (K10 (yN o_xi2_3 0)) (K22 (yA 60 [(Value.agg #[(.int .i64 x35.1), (.int .u8 x35.2.1), (S x35.2.2.1), (LineV.v x35), (S x35.2.2.2.2)]), (.int .i64 70)]) (c_classes_told x35.1 x35.2.1 x35.2.2.1 (LineV.v x35) (LineV.fs x35) x35.2.2.2.2 70 _ r_in42.rd (gcell_below hml hb) (by exact (by assumption : _ ∧ _ ∧ _).1) (by exact (by assumption : _ ∧ _ ∧ _).2.2)) ?_))))))
    rintro _ w66 ⟨rfl, hB67⟩
    replace hb := hb.trans (hB67.mono hs)
    replace hs := Nat.le_trans hs (hB67.size)
    replace o_cb11 := zB o_cb11 hB67
    replace o_cb15 := zB o_cb15 hB67
    replace o_cb19 := zB o_cb19 hB67
    replace o_x30 := zB o_x30 hB67
    replace o_x8 := zB o_x8 hB67
    replace o_x11 := zB o_x11 hB67
    replace o_xi2_3 := zB o_xi2_3 hB67
    replace r_q2 := r_q2.below hB67
    replace r_b28 := r_b28.below hB67
    replace r_cb11_0 := r_cb11_0.below hB67
    replace r_cb15_0 := r_cb15_0.below hB67
    replace r_x30_2 := r_x30_2.below hB67
    have := tc_rng (LineV.fs x35) 70
    refine zI (K21 (zQ (Value.agg #[(.int .i32 ((toldC (LineV.fs x35) 70).1)), (.int .i32 ((toldC (LineV.fs x35) 70).2.1))])) (K21 (zQ (.int .u8 ((toldC (LineV.fs x35) 70).2.2.1))) (K21 (zQ (.int .i64 ((toldC (LineV.fs x35) 70).2.2.2))) (K21 (yW (fun b => .pointer (some ⟨b, 0, none⟩)) (.cells [(.int .i32 0), (.int .i32 0)].toArray 32 (0, 0))) ?_))))
    intro b69 w70 hN71
    have g_xi2_5 : w.heap.size ≤ b69 := by rw [hN71.num]; exact hs
    replace hb := hb.trans (hN71.below.mono hs)
    replace hs := Nat.le_trans hs (hN71.below.size)
    replace o_cb11 := zB o_cb11 hN71.below
    replace o_cb15 := zB o_cb15 hN71.below
    replace o_cb19 := zB o_cb19 hN71.below
    replace o_x30 := zB o_x30 hN71.below
    replace o_x8 := zB o_x8 hN71.below
    replace o_x11 := zB o_x11 hN71.below
    replace o_xi2_3 := zB o_xi2_3 hN71.below
    replace r_q2 := r_q2.below hN71.below
    replace r_b28 := r_b28.below hN71.below
    replace r_cb11_0 := r_cb11_0.below hN71.below
    replace r_cb15_0 := r_cb15_0.below hN71.below
    replace r_x30_2 := r_x30_2.below hN71.below
    have o_xi2_5 := hN71.here
    refine K26 (yX b69 0 [(.int .i32 ((toldC (LineV.fs x35) 70).1)), (.int .i32 ((toldC (LineV.fs x35) 70).2.1))] [(.int .i32 0), (.int .i32 0)] [(.int .i32 ((toldC (LineV.fs x35) 70).1)), (.int .i32 ((toldC (LineV.fs x35) 70).2.1))] 32) rfl (by kernel_rfl) o_xi2_5 (by kernel_rfl) rfl ?_
    intro w72 hW73
    replace hb := hb.trans (hW73.below g_xi2_5)
    replace hs := Nat.le_trans hs (Nat.le_of_eq hW73.size.symm)
    replace o_cb11 := zL o_cb11 hW73 (zT o_cb11 o_xi2_5 (by simp))
    replace o_cb15 := zL o_cb15 hW73 (zT o_cb15 o_xi2_5 (by simp))
    replace o_cb19 := zL o_cb19 hW73 (zT o_cb19 o_xi2_5 (by simp))
    replace o_x30 := zL o_x30 hW73 (zT o_x30 o_xi2_5 (by simp))
    replace o_x8 := zL o_x8 hW73 (zT o_x8 o_xi2_5 (by simp))
    replace o_x11 := zL o_x11 hW73 (zT o_x11 o_xi2_5 (by simp))
    replace o_xi2_3 := zL o_xi2_3 hW73 (zT o_xi2_3 o_xi2_5 (by simp))
    replace r_q2 := r_q2.wrote hW73 (r_q2.ne o_xi2_5 (by simp))
    replace r_b28 := r_b28.wrote hW73 (r_b28.ne o_xi2_5 (by simp))
    replace r_cb11_0 := r_cb11_0.wrote hW73 (r_cb11_0.ne o_xi2_5 (by simp))
    replace r_cb15_0 := r_cb15_0.wrote hW73 (r_cb15_0.ne o_xi2_5 (by simp))
    replace r_x30_2 := r_x30_2.wrote hW73 (r_x30_2.ne o_xi2_5 (by simp))
    replace o_xi2_5 := hW73.here
    refine zJ (zJ (zE (zA (zF (zF (zD (zI (K22 (yD .i64 ((toldC (LineV.fs x35) 70).2.2.2) 0 ((toldC (LineV.fs x35) 70).2.2.2 ≠ 0) rfl (cmp_ne ((toldC (LineV.fs x35) 70).2.2.2) 0)) ?_ ?_))))))))
    ·intro h74
     replace h74 : (toldC (LineV.fs x35) 70).2.2.2 ≠ 0 := by omega
     refine zE (zA (K11 zS (zF (zD (zI (zJ (zE (zA (zX (zH ?_))))))))))
     refine zO [.tmp 4] [(.int .i64 ((toldC (LineV.fs x35) 70).2.2.2))] rfl rfl ⟨by kernel_rfl, trivial⟩ ?_
     show L _ _ _ _ _ _ (Fm.put _ _ (.int .i64 ((toldC (LineV.fs x35) 70).2.2.2))) _
     refine zE ?_
     refine ⟨rfl, ?_⟩
     refine K44 (yE 7 (.int .i64 ((toldC (LineV.fs x35) 70).2.2.2)) rfl) (zC (zG (zC (zC (zG (zC zK)))))) (by kernel_rfl) (fun _ => by kernel_rfl) ?_
     refine K11 yQ ?_
     refine zA (zF (zD (zI (K22 (yD .i64 ((toldC (LineV.fs x35) 70).2.2.2) 0 ((toldC (LineV.fs x35) 70).2.2.2 ≠ 0) rfl (cmp_ne ((toldC (LineV.fs x35) 70).2.2.2) 0)) ?_ ?_))))
     ·intro h75
      replace h75 : (toldC (LineV.fs x35) 70).2.2.2 ≠ 0 := by omega
      refine zE (zA (K11 zS (zF (K31 (W_draws 9) ?_))))
      intro w76 hB77
      replace hb := hb.trans (hB77.mono hs)
      replace hs := Nat.le_trans hs (hB77.size)
      replace o_x11 := zB o_x11 hB77
      refine K44 (yE 0 (S f) rfl) (zC (zG (zC (zC (zG (zC zK)))))) (by kernel_rfl) (fun _ => by kernel_rfl) ?_
      refine K44 (yE 1 (.pointer (some ⟨b43, 0, none⟩)) rfl) (zC (zG (zC (zC (zG (zC zK)))))) (by kernel_rfl) (fun _ => by kernel_rfl) ?_
      refine K44 (yE 3 (.int .i64 ((toldC (LineV.fs x35) 70).2.2.2)) rfl) (zC (zG (zC (zC (zG (zC zK)))))) (by kernel_rfl) (fun _ => by kernel_rfl) ?_
      refine K44 (yE 7 (.pointer none) rfl) (zC (zG (zC (zC (zG (zC zK)))))) (by kernel_rfl) (fun _ => by kernel_rfl) ?_
      refine K11 (yJ 2) ?_
      refine yZ 2 rfl ?_ rfl
      refine K22 (zZ b43 0 (.int .i64 x35.1)) (zM o_x11 rfl) (zE ?_)
      refine ⟨rfl, ?_⟩
      refine K44 (yE 4 (Value.agg #[(S f), (.int .i64 x35.1), (.int .i64 ((toldC (LineV.fs x35) 70).2.2.2))]) rfl) (zC (zG (zC (zC (zG (zC zK)))))) (by kernel_rfl) (fun _ => by kernel_rfl) ?_
      refine K11 (yJ 5) ?_
      refine yZ 5 rfl ?_ rfl
      refine K21 (yW (fun b => .pointer (some ⟨b, 0, none⟩)) (.cells [(S f), (.int .i64 x35.1), (.int .i64 ((toldC (LineV.fs x35) 70).2.2.2))].toArray 75 (0, 0))) ?_
      intro b78 w79 hN80
      have g_x60 : w.heap.size ≤ b78 := by rw [hN80.num]; exact hs
      replace hb := hb.trans (hN80.below.mono hs)
      replace hs := Nat.le_trans hs (hN80.below.size)
      have o_x60 := hN80.here
      refine zE ?_
      refine ⟨rfl, ?_⟩
      refine K44 (yE 6 (.iface 73 (.pointer (some ⟨b78, 0, none⟩))) rfl) (zC (zG (zC (zC (zG (zC zK)))))) (by kernel_rfl) (fun _ => by kernel_rfl) ?_
      refine K44 (yE 8 (.iface 73 (.pointer (some ⟨b78, 0, none⟩))) rfl) (zC (zG (zC (zC (zG (zC zK)))))) (by kernel_rfl) (fun _ => by kernel_rfl) ?_
      refine K11 yQ ?_
      refine zA (zX (zU (zH (zH (zU (zH (end_retM (ds := []) hds ?_)))))))
      refine Lv_nil [.tmp 4, .tmp 5] [(.pointer none), (.iface 73 (.pointer (some ⟨b78, 0, none⟩)))] rfl ⟨by kernel_rfl, by kernel_rfl, trivial⟩ ?_
      have oE : w79.heap[b78]? = some (.cells [(S f), (.int .i64 ((clsF s).2.1)), (.int .i64 ((clsF s).2.2))].toArray 75 (0, 0)) := by (rw [cb_data1 i3 (by assumption) (by assumption) (by assumption)]; exact o_x60)
      exact ⟨b78, xG (rfl) (rfl), oE, g_x60, hb⟩
     ·intro h81
      replace h81 : (toldC (LineV.fs x35) 70).2.2.2 = 0 := by omega
      exact absurd h81 h74
    ·intro h82
     replace h82 : (toldC (LineV.fs x35) 70).2.2.2 = 0 := by omega
     refine zE (zA (K11 zN (zV (zA (zF (zF (W_pre 7 9 2 (by kernel_rfl) (by kernel_rfl) (by kernel_rfl) (by kernel_rfl) (by kernel_rfl) (by kernel_rfl) (by kernel_rfl) (yI (yS (.pointer (some ⟨b20, 0, none⟩)) (fun _ => by kernel_rfl) (yS (.pointer (some ⟨b20, 1, none⟩)) (fun _ => by kernel_rfl) (K13 (yY b20 1 (.pointer (some ⟨cb15, 0, none⟩))) (fun _ => by kernel_rfl) (zM o_x30 rfl) (K14 (Lq_loadA b69 0 [(.int .i32 ((toldC (LineV.fs x35) 70).1)), (.int .i32 ((toldC (LineV.fs x35) 70).2.1))]) (fun _ => by kernel_rfl) (fun _ => by kernel_rfl) (K10 (yN o_xi2_5 0)) (yS (.pointer (some ⟨b63, 0, none⟩)) (fun _ => by kernel_rfl) (K13 (yY b63 0 (.int .i64 x35.1)) (fun _ => by kernel_rfl) (zM o_xi2_3 rfl) (xF ?_)))))))))))))))
     intro w83 hB84
     replace hb := hb.trans (hB84.mono hs)
     replace hs := Nat.le_trans hs (hB84.size)
     replace o_cb11 := zB o_cb11 hB84
     replace o_cb15 := zB o_cb15 hB84
     replace o_cb19 := zB o_cb19 hB84
     replace o_x30 := zB o_x30 hB84
     replace o_x8 := zB o_x8 hB84
     replace o_x11 := zB o_x11 hB84
     replace o_xi2_5 := zB o_xi2_5 hB84
     replace r_q2 := r_q2.below hB84
     replace r_b28 := r_b28.below hB84
     replace r_cb11_0 := r_cb11_0.below hB84
     replace r_cb15_0 := r_cb15_0.below hB84
     replace r_x30_2 := r_x30_2.below hB84
     refine K11 (yJ 7) ?_
     refine yZ 7 rfl ?_ rfl
     refine K22 (yA 61 [(.pointer (some ⟨cb15, 0, none⟩)), (Value.agg #[(.int .i32 ((toldC (LineV.fs x35) 70).1)), (.int .i32 ((toldC (LineV.fs x35) 70).2.1))]), (.int .i64 x35.1)]) (c_put_I cb15 v_cb15_0 lm ((toldC (LineV.fs x35) 70).1) ((toldC (LineV.fs x35) 70).2.1) x35.1 w.heap.size _ hs o_cb15 g_cb15 r_cb15_0 (by exact ol.rise) (by omega) (by omega)) ?_
     rintro _ w86 ⟨q85, rfl, ho89, r_q85, dm87, hC88⟩
     replace hb := hC88.below hb hs (fun k e => e.elim (fun x => x ▸ g_cb15) (fun x => (World.ownsRow.lt r_cb15_0 k x).1))
     replace hs := Nat.le_trans hs hC88.size
     replace o_cb11 := yL o_cb11 hC88 (zT o_cb11 o_cb15 (by simp)) (r_cb15_0.ne o_cb11 (by simp))
     replace o_cb19 := yL o_cb19 hC88 (zT o_cb19 o_cb15 (by simp)) (r_cb15_0.ne o_cb19 (by simp))
     replace o_x30 := yL o_x30 hC88 (zT o_x30 o_cb15 (by simp)) (r_cb15_0.ne o_x30 (by simp))
     replace o_x8 := yL o_x8 hC88 (zT o_x8 o_cb15 (by simp)) (r_cb15_0.ne o_x8 (by simp))
     replace o_x11 := yL o_x11 hC88 (zT o_x11 o_cb15 (by simp)) (r_cb15_0.ne o_x11 (by simp))
     replace o_xi2_5 := yL o_xi2_5 hC88 (zT o_xi2_5 o_cb15 (by simp)) (r_cb15_0.ne o_xi2_5 (by simp))
     replace r_q2 := NRow.ch_mut r_q2 hC88 (r_q2.ne o_cb15 (by simp)) (r_q2.apart r_cb15_0 (by kernel_rfl))
     replace r_b28 := r_b28.ch_mut hC88 (r_b28.ne o_cb15 (by simp)) (r_b28.apart r_cb15_0 (by kernel_rfl))
     replace r_cb11_0 := r_cb11_0.ch_mut hC88 (r_cb11_0.ne o_cb15 (by simp)) (r_cb11_0.apart r_cb15_0 (by kernel_rfl))
     replace r_x30_2 := r_x30_2.ch_mut hC88 (r_x30_2.ne o_cb15 (by simp)) (r_x30_2.apart r_cb15_0 (by kernel_rfl))
     replace o_cb15 := ho89
     refine zE ?_
     refine ⟨rfl, ?_⟩
     refine K44 (yE 8 (.int .i64 (putE lm ((toldC (LineV.fs x35) 70).1) ((toldC (LineV.fs x35) 70).2.1))) rfl) (zC (zC zR)) (by kernel_rfl) (fun _ => by kernel_rfl) ?_
     refine K11 yQ ?_
     refine zA (zF (zD (zI (K22 (yD .i64 (putE lm ((toldC (LineV.fs x35) 70).1) ((toldC (LineV.fs x35) 70).2.1)) 0 ((putE lm ((toldC (LineV.fs x35) 70).1) ((toldC (LineV.fs x35) 70).2.1)) ≠ 0) rfl (cmp_ne (putE lm ((toldC (LineV.fs x35) 70).1) ((toldC (LineV.fs x35) 70).2.1)) 0)) ?_ ?_))))
     ·intro h90
      replace h90 : (putE lm ((toldC (LineV.fs x35) 70).1) ((toldC (LineV.fs x35) 70).2.1)) ≠ 0 := by omega
      refine zE (zA (K11 zS (zF (zD (zI (zJ (zE (zA (zX (zH ?_))))))))))
      refine zO [.tmp 4] [(.int .i64 (putE lm ((toldC (LineV.fs x35) 70).1) ((toldC (LineV.fs x35) 70).2.1)))] rfl rfl ⟨by kernel_rfl, trivial⟩ ?_
      show L _ _ _ _ _ _ (Fm.put _ _ (.int .i64 (putE lm ((toldC (LineV.fs x35) 70).1) ((toldC (LineV.fs x35) 70).2.1)))) _
      refine zE ?_
      refine ⟨rfl, ?_⟩
      refine K44 (yE 7 (.int .i64 (putE lm ((toldC (LineV.fs x35) 70).1) ((toldC (LineV.fs x35) 70).2.1))) rfl) (zC (zG (zC (zC (zG (zC zK)))))) (by kernel_rfl) (fun _ => by kernel_rfl) ?_
      refine K11 yQ ?_
      refine zA (zF (zD (zI (K22 (yD .i64 (putE lm ((toldC (LineV.fs x35) 70).1) ((toldC (LineV.fs x35) 70).2.1)) 0 ((putE lm ((toldC (LineV.fs x35) 70).1) ((toldC (LineV.fs x35) 70).2.1)) ≠ 0) rfl (cmp_ne (putE lm ((toldC (LineV.fs x35) 70).1) ((toldC (LineV.fs x35) 70).2.1)) 0)) ?_ ?_))))
      ·intro h91
       replace h91 : (putE lm ((toldC (LineV.fs x35) 70).1) ((toldC (LineV.fs x35) 70).2.1)) ≠ 0 := by omega
       refine zE (zA (K11 zS (zF (K31 (W_draws 9) ?_))))
       intro w92 hB93
       replace hb := hb.trans (hB93.mono hs)
       replace hs := Nat.le_trans hs (hB93.size)
       replace o_x11 := zB o_x11 hB93
       refine K44 (yE 0 (S f) rfl) (zC (zG (zC (zC (zG (zC zK)))))) (by kernel_rfl) (fun _ => by kernel_rfl) ?_
       refine K44 (yE 1 (.pointer (some ⟨b43, 0, none⟩)) rfl) (zC (zG (zC (zC (zG (zC zK)))))) (by kernel_rfl) (fun _ => by kernel_rfl) ?_
       refine K44 (yE 3 (.int .i64 (putE lm ((toldC (LineV.fs x35) 70).1) ((toldC (LineV.fs x35) 70).2.1))) rfl) (zC (zG (zC (zC (zG (zC zK)))))) (by kernel_rfl) (fun _ => by kernel_rfl) ?_
       refine K44 (yE 7 (.pointer none) rfl) (zC (zG (zC (zC (zG (zC zK)))))) (by kernel_rfl) (fun _ => by kernel_rfl) ?_
       refine K11 (yJ 2) ?_
       refine yZ 2 rfl ?_ rfl
       refine K22 (zZ b43 0 (.int .i64 x35.1)) (zM o_x11 rfl) (zE ?_)
       refine ⟨rfl, ?_⟩
       refine K44 (yE 4 (Value.agg #[(S f), (.int .i64 x35.1), (.int .i64 (putE lm ((toldC (LineV.fs x35) 70).1) ((toldC (LineV.fs x35) 70).2.1)))]) rfl) (zC (zG (zC (zC (zG (zC zK)))))) (by kernel_rfl) (fun _ => by kernel_rfl) ?_
       refine K11 (yJ 5) ?_
       refine yZ 5 rfl ?_ rfl
       refine K21 (yW (fun b => .pointer (some ⟨b, 0, none⟩)) (.cells [(S f), (.int .i64 x35.1), (.int .i64 (putE lm ((toldC (LineV.fs x35) 70).1) ((toldC (LineV.fs x35) 70).2.1)))].toArray 75 (0, 0))) ?_
       intro b94 w95 hN96
       have g_x60 : w.heap.size ≤ b94 := by rw [hN96.num]; exact hs
       replace hb := hb.trans (hN96.below.mono hs)
       replace hs := Nat.le_trans hs (hN96.below.size)
       have o_x60 := hN96.here
       refine zE ?_
       refine ⟨rfl, ?_⟩
       refine K44 (yE 6 (.iface 73 (.pointer (some ⟨b94, 0, none⟩))) rfl) (zC (zG (zC (zC (zG (zC zK)))))) (by kernel_rfl) (fun _ => by kernel_rfl) ?_
       refine K44 (yE 8 (.iface 73 (.pointer (some ⟨b94, 0, none⟩))) rfl) (zC (zG (zC (zC (zG (zC zK)))))) (by kernel_rfl) (fun _ => by kernel_rfl) ?_
       refine K11 yQ ?_
       refine zA (zX (zU (zH (zH (zU (zH (end_retM (ds := []) hds ?_)))))))
       refine Lv_nil [.tmp 4, .tmp 5] [(.pointer none), (.iface 73 (.pointer (some ⟨b94, 0, none⟩)))] rfl ⟨by kernel_rfl, by kernel_rfl, trivial⟩ ?_
       have oE : w95.heap[b94]? = some (.cells [(S f), (.int .i64 ((clsF s).2.1)), (.int .i64 ((clsF s).2.2))].toArray 75 (0, 0)) := by (rw [cb_data2 i3 (by assumption) (by assumption) (by assumption) (by assumption)]; exact o_x60)
       exact ⟨b94, xG (rfl) (rfl), oE, g_x60, hb⟩
      ·intro h97
       replace h97 : (putE lm ((toldC (LineV.fs x35) 70).1) ((toldC (LineV.fs x35) 70).2.1)) = 0 := by omega
       exact absurd h97 h90
     ·intro h98
      replace h98 : (putE lm ((toldC (LineV.fs x35) 70).1) ((toldC (LineV.fs x35) 70).2.1)) = 0 := by omega
      refine zE (zA (K11 zN (zV (zA (zF (W_pre 6 8 2 (by kernel_rfl) (by kernel_rfl) (by kernel_rfl) (by kernel_rfl) (by kernel_rfl) (by kernel_rfl) (by kernel_rfl) (yI (yS (.pointer (some ⟨b20, 0, none⟩)) (fun _ => by kernel_rfl) (yS (.pointer (some ⟨b20, 0, none⟩)) (fun _ => by kernel_rfl) (K13 (yY b20 0 (.pointer (some ⟨cb11, 0, none⟩))) (fun _ => by kernel_rfl) (zM o_x30 rfl) (K14 (Lq_loadA b69 0 [(.int .i32 ((toldC (LineV.fs x35) 70).1)), (.int .i32 ((toldC (LineV.fs x35) 70).2.1))]) (fun _ => by kernel_rfl) (fun _ => by kernel_rfl) (K10 (yN o_xi2_5 0)) (yI (xF ?_)))))))))))))
      intro w99 hB100
      replace hb := hb.trans (hB100.mono hs)
      replace hs := Nat.le_trans hs (hB100.size)
      replace o_cb11 := zB o_cb11 hB100
      replace o_cb15 := zB o_cb15 hB100
      replace o_cb19 := zB o_cb19 hB100
      replace o_x30 := zB o_x30 hB100
      replace o_x8 := zB o_x8 hB100
      replace o_x11 := zB o_x11 hB100
      replace r_q2 := r_q2.below hB100
      replace r_b28 := r_b28.below hB100
      replace r_cb11_0 := r_cb11_0.below hB100
      replace r_x30_2 := r_x30_2.below hB100
      replace r_q85 := r_q85.below hB100
      refine K11 (yJ 6) ?_
      refine yZ 6 rfl ?_ rfl
      refine K22 (yA 62 [(.pointer (some ⟨cb11, 0, none⟩)), (Value.agg #[(.int .i32 ((toldC (LineV.fs x35) 70).1)), (.int .i32 ((toldC (LineV.fs x35) 70).2.1))]), (.int .u8 ((toldC (LineV.fs x35) 70).2.2.1))]) (c_put_C cb11 v_cb11_0 am ((toldC (LineV.fs x35) 70).1) ((toldC (LineV.fs x35) 70).2.1) ((toldC (LineV.fs x35) 70).2.2.1) w.heap.size _ hs o_cb11 g_cb11 r_cb11_0 (by exact oa.rise) (by omega) (by omega)) ?_
      rintro _ w102 ⟨q101, rfl, ho105, r_q101, dm103, hC104⟩
      replace hb := hC104.below hb hs (fun k e => e.elim (fun x => x ▸ g_cb11) (fun x => (World.ownsRow.lt r_cb11_0 k x).1))
      replace hs := Nat.le_trans hs hC104.size
      replace o_cb15 := yL o_cb15 hC104 (zT o_cb15 o_cb11 (by simp)) (r_cb11_0.ne o_cb15 (by simp))
      replace o_cb19 := yL o_cb19 hC104 ne_cb19_cb11 (r_cb11_0.ne o_cb19 (by simp))
      replace o_x30 := yL o_x30 hC104 (zT o_x30 o_cb11 (by simp)) (r_cb11_0.ne o_x30 (by simp))
      replace o_x8 := yL o_x8 hC104 (zT o_x8 o_cb11 (by simp)) (r_cb11_0.ne o_x8 (by simp))
      replace o_x11 := yL o_x11 hC104 (zT o_x11 o_cb11 (by simp)) (r_cb11_0.ne o_x11 (by simp))
      replace r_q2 := NRow.ch_mut r_q2 hC104 (r_q2.ne o_cb11 (by simp)) (r_q2.apart r_cb11_0 (by kernel_rfl))
      replace r_b28 := r_b28.ch_mut hC104 (r_b28.ne o_cb11 (by simp)) (r_b28.apart r_cb11_0 (by kernel_rfl))
      replace r_x30_2 := r_x30_2.ch_mut hC104 (r_x30_2.ne o_cb11 (by simp)) (r_x30_2.apart r_cb11_0 (by kernel_rfl))
      replace r_q85 := r_q85.ch_mut hC104 (r_q85.ne o_cb11 (by simp)) (r_q85.apart r_cb11_0 (by kernel_rfl))
      replace o_cb11 := ho105
      refine zE ?_
      refine ⟨rfl, ?_⟩
      refine K44 (yE 7 (.int .i64 (putE am ((toldC (LineV.fs x35) 70).1) ((toldC (LineV.fs x35) 70).2.1))) rfl) (zC zR) (by kernel_rfl) (fun _ => by kernel_rfl) ?_
      refine K11 yQ ?_
      refine zA (zX ?_)
      refine zO [.tmp 4] [(.int .i64 (putE am ((toldC (LineV.fs x35) 70).1) ((toldC (LineV.fs x35) 70).2.1)))] rfl rfl ⟨by kernel_rfl, trivial⟩ ?_
      show L _ _ _ _ _ _ (Fm.put _ _ (.int .i64 (putE am ((toldC (LineV.fs x35) 70).1) ((toldC (LineV.fs x35) 70).2.1)))) _
      refine zE ?_
      refine ⟨rfl, ?_⟩
      refine K44 (yE 7 (.int .i64 (putE am ((toldC (LineV.fs x35) 70).1) ((toldC (LineV.fs x35) 70).2.1))) rfl) (zC (zG (zC (zC (zG (zC zK)))))) (by kernel_rfl) (fun _ => by kernel_rfl) ?_
      refine K11 yQ ?_
      refine zA (zF (zD (zI (K22 (yD .i64 (putE am ((toldC (LineV.fs x35) 70).1) ((toldC (LineV.fs x35) 70).2.1)) 0 ((putE am ((toldC (LineV.fs x35) 70).1) ((toldC (LineV.fs x35) 70).2.1)) ≠ 0) rfl (cmp_ne (putE am ((toldC (LineV.fs x35) 70).1) ((toldC (LineV.fs x35) 70).2.1)) 0)) ?_ ?_))))
      ·intro h106
       replace h106 : (putE am ((toldC (LineV.fs x35) 70).1) ((toldC (LineV.fs x35) 70).2.1)) ≠ 0 := by omega
       refine zE (zA (K11 zS (zF (K31 (W_draws 9) ?_))))
       intro w107 hB108
       replace hb := hb.trans (hB108.mono hs)
       replace hs := Nat.le_trans hs (hB108.size)
       replace o_x11 := zB o_x11 hB108
       refine K44 (yE 0 (S f) rfl) (zC (zG (zC (zC (zG (zC zK)))))) (by kernel_rfl) (fun _ => by kernel_rfl) ?_
       refine K44 (yE 1 (.pointer (some ⟨b43, 0, none⟩)) rfl) (zC (zG (zC (zC (zG (zC zK)))))) (by kernel_rfl) (fun _ => by kernel_rfl) ?_
       refine K44 (yE 3 (.int .i64 (putE am ((toldC (LineV.fs x35) 70).1) ((toldC (LineV.fs x35) 70).2.1))) rfl) (zC (zG (zC (zC (zG (zC zK)))))) (by kernel_rfl) (fun _ => by kernel_rfl) ?_
       refine K44 (yE 7 (.pointer none) rfl) (zC (zG (zC (zC (zG (zC zK)))))) (by kernel_rfl) (fun _ => by kernel_rfl) ?_
       refine K11 (yJ 2) ?_
       refine yZ 2 rfl ?_ rfl
       refine K22 (zZ b43 0 (.int .i64 x35.1)) (zM o_x11 rfl) (zE ?_)
       refine ⟨rfl, ?_⟩
       refine K44 (yE 4 (Value.agg #[(S f), (.int .i64 x35.1), (.int .i64 (putE am ((toldC (LineV.fs x35) 70).1) ((toldC (LineV.fs x35) 70).2.1)))]) rfl) (zC (zG (zC (zC (zG (zC zK)))))) (by kernel_rfl) (fun _ => by kernel_rfl) ?_
       refine K11 (yJ 5) ?_
       refine yZ 5 rfl ?_ rfl
       refine K21 (yW (fun b => .pointer (some ⟨b, 0, none⟩)) (.cells [(S f), (.int .i64 x35.1), (.int .i64 (putE am ((toldC (LineV.fs x35) 70).1) ((toldC (LineV.fs x35) 70).2.1)))].toArray 75 (0, 0))) ?_
       intro b109 w110 hN111
       have g_x60 : w.heap.size ≤ b109 := by rw [hN111.num]; exact hs
       replace hb := hb.trans (hN111.below.mono hs)
       replace hs := Nat.le_trans hs (hN111.below.size)
       have o_x60 := hN111.here
       refine zE ?_
       refine ⟨rfl, ?_⟩
       refine K44 (yE 6 (.iface 73 (.pointer (some ⟨b109, 0, none⟩))) rfl) (zC (zG (zC (zC (zG (zC zK)))))) (by kernel_rfl) (fun _ => by kernel_rfl) ?_
       refine K44 (yE 8 (.iface 73 (.pointer (some ⟨b109, 0, none⟩))) rfl) (zC (zG (zC (zC (zG (zC zK)))))) (by kernel_rfl) (fun _ => by kernel_rfl) ?_
       refine K11 yQ ?_
       refine zA (zX (zU (zH (zH (zU (zH (end_retM (ds := []) hds ?_)))))))
       refine Lv_nil [.tmp 4, .tmp 5] [(.pointer none), (.iface 73 (.pointer (some ⟨b109, 0, none⟩)))] rfl ⟨by kernel_rfl, by kernel_rfl, trivial⟩ ?_
       have oE : w110.heap[b109]? = some (.cells [(S f), (.int .i64 ((clsF s).2.1)), (.int .i64 ((clsF s).2.2))].toArray 75 (0, 0)) := by (rw [cb_data3 i3 (by assumption) (by assumption) (by assumption) (by assumption) (by assumption)]; exact o_x60)
       exact ⟨b109, xG (rfl) (rfl), oE, g_x60, hb⟩
      ·intro h112
       replace h112 : (putE am ((toldC (LineV.fs x35) 70).1) ((toldC (LineV.fs x35) 70).2.1)) = 0 := by omega
       refine zE (zA (K11 zN (zV (zP (zA (zD (K21 (xD i 1 (by omega)) (zI (zE ?_)))))))))
       refine zA ⟨_, ?_, (i + 1), (putF eqC am ((toldC (LineV.fs x35) 70).1) ((toldC (LineV.fs x35) 70).2.1) ((toldC (LineV.fs x35) 70).2.2.1)), (putF eqI lm ((toldC (LineV.fs x35) 70).1) ((toldC (LineV.fs x35) 70).2.1) x35.1), mm, q101, q85, v_x30_2, rfl, hds, by kernel_rfl, by kernel_rfl, by kernel_rfl, by kernel_rfl, by kernel_rfl, by kernel_rfl, r_q2, r_b28, r_q101, r_q85, r_x30_2, o_cb11, o_cb15, o_cb19, o_x30, o_x8, hb, hs, ?_, ?_, ?_, ?_, ?_, ?_⟩
       ·omega
       ·omega
       ·exact invC_on i3 (by assumption) (st_data (by assumption) (by assumption) (by assumption) (by assumption))
       ·exact oa.put eqI_law _ _ _
       ·exact ol.put eqI_law _ _ _
       ·omega
       ·first | exact om | exact rng_snoc om _ _ _
   ·subst he55
    have hkd : x35.2.1 = 2 := by omega
    refine K13 (yY g50 (off51 + x35.2.1.toNat * 1) (.func (.func 32) #[(.pointer (some ⟨b20, 0, none⟩))] #[])) (fun _ => by kernel_rfl) (hc53 0 _ rfl) (K14 (Lq_loadA b43 0 [(.int .i64 x35.1), (.int .u8 x35.2.1), (S x35.2.2.1), (LineV.v x35), (S x35.2.2.2.2)]) (fun _ => by kernel_rfl) (fun _ => by kernel_rfl) (K10 (yN o_x11 0)) (xF ?_))
    intro w113 hB114
    replace hb := hb.trans (hB114.mono hs)
    replace hs := Nat.le_trans hs (hB114.size)
    replace o_x11 := zB o_x11 hB114
    replace r_q2 := r_q2.below hB114
    refine K11 (yJ 6) ?_
    refine yZ 6 rfl ?_ rfl
    refine K21 (L_inline 32 [(.pointer (some ⟨b20, 0, none⟩)), (Value.agg #[(.int .i64 x35.1), (.int .u8 x35.2.1), (S x35.2.2.1), (LineV.v x35), (S x35.2.2.2.2)])]) ?_
    refine K11 (enter (args := [(.pointer (some ⟨b20, 0, none⟩)), (Value.agg #[(.int .i64 x35.1), (.int .u8 x35.2.1), (S x35.2.2.1), (LineV.v x35), (S x35.2.2.2.2)])]) Tryz.func32 rfl (by kernel_rfl : _ = 5)) ?_
    refine zF (zD (K21 (yW (fun b => .pointer (some ⟨b, 0, none⟩)) (.cells [(.int .i64 x35.1), (.int .u8 x35.2.1), (S x35.2.2.1), (LineV.v x35), (S x35.2.2.2.2)].toArray 72 (0, 0))) ?_))
    intro b115 w116 hN117
    have g_xi3_3 : w.heap.size ≤ b115 := by rw [hN117.num]; exact hs
    have nb_o_xi3_3_r_q2 := r_q2.new_ne hN117
    replace hb := hb.trans (hN117.below.mono hs)
    replace hs := Nat.le_trans hs (hN117.below.size)
    replace o_x11 := zB o_x11 hN117.below
    refine zJ (zE (zA (zF (zD (zJ (zE (zA (zX ?_))))))))
    refine zO [.tmp 4] [(.int .i64 33)] rfl rfl ⟨by kernel_rfl, trivial⟩ ?_
    show L _ _ _ _ _ _ (Fm.put _ _ (.int .i64 33)) _
    refine zE ?_
    refine ⟨rfl, ?_⟩
    refine K44 (yE 7 (.int .i64 33) rfl) (zC (zG (zC (zC (zG (zC zK)))))) (by kernel_rfl) (fun _ => by kernel_rfl) ?_
    refine K11 yQ ?_
    refine zA (zF (zD (zI (K21 (zQ (.bool true)) (zE (zA (K11 zS (zF (K31 (W_draws 9) ?_)))))))))
    intro w118 hB119
    replace hb := hb.trans (hB119.mono hs)
    replace hs := Nat.le_trans hs (hB119.size)
    replace o_x11 := zB o_x11 hB119
    refine K44 (yE 0 (S f) rfl) (zC (zG (zC (zC (zG (zC zK)))))) (by kernel_rfl) (fun _ => by kernel_rfl) ?_
    refine K44 (yE 1 (.pointer (some ⟨b43, 0, none⟩)) rfl) (zC (zG (zC (zC (zG (zC zK)))))) (by kernel_rfl) (fun _ => by kernel_rfl) ?_
    refine K44 (yE 3 (.int .i64 33) rfl) (zC (zG (zC (zC (zG (zC zK)))))) (by kernel_rfl) (fun _ => by kernel_rfl) ?_
    refine K44 (yE 7 (.pointer none) rfl) (zC (zG (zC (zC (zG (zC zK)))))) (by kernel_rfl) (fun _ => by kernel_rfl) ?_
    refine K11 (yJ 2) ?_
    refine yZ 2 rfl ?_ rfl
    refine K22 (zZ b43 0 (.int .i64 x35.1)) (zM o_x11 rfl) (zE ?_)
    refine ⟨rfl, ?_⟩
    refine K44 (yE 4 (Value.agg #[(S f), (.int .i64 x35.1), (.int .i64 33)]) rfl) (zC (zG (zC (zC (zG (zC zK)))))) (by kernel_rfl) (fun _ => by kernel_rfl) ?_
    refine K11 (yJ 5) ?_
    refine yZ 5 rfl ?_ rfl
    refine K21 (yW (fun b => .pointer (some ⟨b, 0, none⟩)) (.cells [(S f), (.int .i64 x35.1), (.int .i64 33)].toArray 75 (0, 0))) ?_
    intro b120 w121 hN122
    have g_x60 : w.heap.size ≤ b120 := by rw [hN122.num]; exact hs
    replace hb := hb.trans (hN122.below.mono hs)
    replace hs := Nat.le_trans hs (hN122.below.size)
    have o_x60 := hN122.here
    refine zE ?_
    refine ⟨rfl, ?_⟩
    refine K44 (yE 6 (.iface 73 (.pointer (some ⟨b120, 0, none⟩))) rfl) (zC (zG (zC (zC (zG (zC zK)))))) (by kernel_rfl) (fun _ => by kernel_rfl) ?_
    refine K44 (yE 8 (.iface 73 (.pointer (some ⟨b120, 0, none⟩))) rfl) (zC (zG (zC (zC (zG (zC zK)))))) (by kernel_rfl) (fun _ => by kernel_rfl) ?_
    refine K11 yQ ?_
    refine zA (zX (zU (zH (zH (zU (zH (end_retM (ds := []) hds ?_)))))))
    refine Lv_nil [.tmp 4, .tmp 5] [(.pointer none), (.iface 73 (.pointer (some ⟨b120, 0, none⟩)))] rfl ⟨by kernel_rfl, by kernel_rfl, trivial⟩ ?_
    have oE : w121.heap[b120]? = some (.cells [(S f), (.int .i64 ((clsF s).2.1)), (.int .i64 ((clsF s).2.2))].toArray 75 (0, 0)) := by (rw [cb_order i3 (by assumption) (by assumption)]; exact o_x60)
    exact ⟨b120, xG (rfl) (rfl), oE, g_x60, hb⟩
   ·subst he55
    have hkd : x35.2.1 = 3 := by omega
    refine K13 (yY g50 (off51 + x35.2.1.toNat * 1) (.func (.func 33) #[(.pointer (some ⟨b20, 0, none⟩))] #[])) (fun _ => by kernel_rfl) (hc53 0 _ rfl) (K14 (Lq_loadA b43 0 [(.int .i64 x35.1), (.int .u8 x35.2.1), (S x35.2.2.1), (LineV.v x35), (S x35.2.2.2.2)]) (fun _ => by kernel_rfl) (fun _ => by kernel_rfl) (K10 (yN o_x11 0)) (xF ?_))
    intro w123 hB124
    replace hb := hb.trans (hB124.mono hs)
    replace hs := Nat.le_trans hs (hB124.size)
    replace o_cb11 := zB o_cb11 hB124
    replace o_cb15 := zB o_cb15 hB124
    replace o_cb19 := zB o_cb19 hB124
    replace o_x30 := zB o_x30 hB124
    replace o_x8 := zB o_x8 hB124
    replace o_x11 := zB o_x11 hB124
    replace r_q2 := r_q2.below hB124
    replace r_b28 := r_b28.below hB124
    replace r_cb11_0 := r_cb11_0.below hB124
    replace r_cb15_0 := r_cb15_0.below hB124
    replace r_x30_2 := r_x30_2.below hB124
    replace r_in42 := r_in42.below hB124
    refine K11 (yJ 6) ?_
    refine yZ 6 rfl ?_ rfl
    refine K21 (L_inline 33 [(.pointer (some ⟨b20, 0, none⟩)), (Value.agg #[(.int .i64 x35.1), (.int .u8 x35.2.1), (S x35.2.2.1), (LineV.v x35), (S x35.2.2.2.2)])]) ?_
    refine K11 (enter (args := [(.pointer (some ⟨b20, 0, none⟩)), (Value.agg #[(.int .i64 x35.1), (.int .u8 x35.2.1), (S x35.2.2.1), (LineV.v x35), (S x35.2.2.2.2)])]) Tryz.func33 rfl (by kernel_rfl : _ = 29)) ?_
    refine zF (zD (K21 (yW (fun b => .pointer (some ⟨b, 0, none⟩)) (.cells [(.int .i64 x35.1), (.int .u8 x35.2.1), (S x35.2.2.1), (LineV.v x35), (S x35.2.2.2.2)].toArray 72 (0, 0))) ?_))
    intro b125 w126 hN127
    have g_xi4_3 : w.heap.size ≤ b125 := by rw [hN127.num]; exact hs
    have nb_o_xi4_3_r_q2 := r_q2.new_ne hN127
    replace hb := hb.trans (hN127.below.mono hs)
    replace hs := Nat.le_trans hs (hN127.below.size)
    replace o_cb11 := zB o_cb11 hN127.below
    replace o_cb15 := zB o_cb15 hN127.below
    replace o_cb19 := zB o_cb19 hN127.below
    replace o_x30 := zB o_x30 hN127.below
    replace o_x8 := zB o_x8 hN127.below
    replace o_x11 := zB o_x11 hN127.below
    replace r_q2 := r_q2.below hN127.below
    replace r_b28 := r_b28.below hN127.below
    replace r_cb11_0 := r_cb11_0.below hN127.below
    replace r_cb15_0 := r_cb15_0.below hN127.below
    replace r_x30_2 := r_x30_2.below hN127.below
    replace r_in42 := r_in42.below hN127.below
    have o_xi4_3 := hN127.here
    refine zJ (zE (zA (zF (zD (K32 (yH b125 0 [(.int .i64 x35.1), (.int .u8 x35.2.1), (S x35.2.2.1), (LineV.v x35), (S x35.2.2.2.2)]) (K10 (yN o_xi4_3 0)) (K22 (yA 60 [(Value.agg #[(.int .i64 x35.1), (.int .u8 x35.2.1), (S x35.2.2.1), (LineV.v x35), (S x35.2.2.2.2)]), (.int .i64 71)]) (c_classes_told x35.1 x35.2.1 x35.2.2.1 (LineV.v x35) (LineV.fs x35) x35.2.2.2.2 71 _ r_in42.rd (gcell_below hml hb) (by exact (by assumption : _ ∧ _ ∧ _).1) (by exact (by assumption : _ ∧ _ ∧ _).2.2)) ?_))))))
    rintro _ w128 ⟨rfl, hB129⟩
    replace hb := hb.trans (hB129.mono hs)
    replace hs := Nat.le_trans hs (hB129.size)
    replace o_cb11 := zB o_cb11 hB129
    replace o_cb15 := zB o_cb15 hB129
    replace o_cb19 := zB o_cb19 hB129
    replace o_x30 := zB o_x30 hB129
    replace o_x8 := zB o_x8 hB129
    replace o_x11 := zB o_x11 hB129
    replace r_q2 := r_q2.below hB129
    replace r_b28 := r_b28.below hB129
    replace r_cb11_0 := r_cb11_0.below hB129
    replace r_cb15_0 := r_cb15_0.below hB129
    replace r_x30_2 := r_x30_2.below hB129
    have := tc_rng (LineV.fs x35) 71
    refine zI (K21 (zQ (Value.agg #[(.int .i32 ((toldC (LineV.fs x35) 71).1)), (.int .i32 ((toldC (LineV.fs x35) 71).2.1))])) (K21 (zQ (.int .u8 ((toldC (LineV.fs x35) 71).2.2.1))) (K21 (zQ (.int .i64 ((toldC (LineV.fs x35) 71).2.2.2))) (K21 (yW (fun b => .pointer (some ⟨b, 0, none⟩)) (.cells [(.int .i32 0), (.int .i32 0)].toArray 32 (0, 0))) ?_))))
    intro b131 w132 hN133
    have g_xi4_5 : w.heap.size ≤ b131 := by rw [hN133.num]; exact hs
    replace hb := hb.trans (hN133.below.mono hs)
    replace hs := Nat.le_trans hs (hN133.below.size)
    replace o_cb11 := zB o_cb11 hN133.below
    replace o_cb15 := zB o_cb15 hN133.below
    replace o_cb19 := zB o_cb19 hN133.below
    replace o_x30 := zB o_x30 hN133.below
    replace o_x8 := zB o_x8 hN133.below
    replace o_x11 := zB o_x11 hN133.below
    replace r_q2 := r_q2.below hN133.below
    replace r_b28 := r_b28.below hN133.below
    replace r_cb11_0 := r_cb11_0.below hN133.below
    replace r_cb15_0 := r_cb15_0.below hN133.below
    replace r_x30_2 := r_x30_2.below hN133.below
    have o_xi4_5 := hN133.here
    refine K26 (yX b131 0 [(.int .i32 ((toldC (LineV.fs x35) 71).1)), (.int .i32 ((toldC (LineV.fs x35) 71).2.1))] [(.int .i32 0), (.int .i32 0)] [(.int .i32 ((toldC (LineV.fs x35) 71).1)), (.int .i32 ((toldC (LineV.fs x35) 71).2.1))] 32) rfl (by kernel_rfl) o_xi4_5 (by kernel_rfl) rfl ?_
    intro w134 hW135
    replace hb := hb.trans (hW135.below g_xi4_5)
    replace hs := Nat.le_trans hs (Nat.le_of_eq hW135.size.symm)
    replace o_cb11 := zL o_cb11 hW135 (zT o_cb11 o_xi4_5 (by simp))
    replace o_cb15 := zL o_cb15 hW135 (zT o_cb15 o_xi4_5 (by simp))
    replace o_cb19 := zL o_cb19 hW135 (zT o_cb19 o_xi4_5 (by simp))
    replace o_x30 := zL o_x30 hW135 (zT o_x30 o_xi4_5 (by simp))
    replace o_x8 := zL o_x8 hW135 (zT o_x8 o_xi4_5 (by simp))
    replace o_x11 := zL o_x11 hW135 (zT o_x11 o_xi4_5 (by simp))
    replace r_q2 := r_q2.wrote hW135 (r_q2.ne o_xi4_5 (by simp))
    replace r_b28 := r_b28.wrote hW135 (r_b28.ne o_xi4_5 (by simp))
    replace r_cb11_0 := r_cb11_0.wrote hW135 (r_cb11_0.ne o_xi4_5 (by simp))
    replace r_cb15_0 := r_cb15_0.wrote hW135 (r_cb15_0.ne o_xi4_5 (by simp))
    replace r_x30_2 := r_x30_2.wrote hW135 (r_x30_2.ne o_xi4_5 (by simp))
    replace o_xi4_5 := hW135.here
    refine zJ (zJ (zE (zA (zF (zF (zD (zI (K22 (yD .i64 ((toldC (LineV.fs x35) 71).2.2.2) 0 ((toldC (LineV.fs x35) 71).2.2.2 ≠ 0) rfl (cmp_ne ((toldC (LineV.fs x35) 71).2.2.2) 0)) ?_ ?_))))))))
    ·intro h136
     replace h136 : (toldC (LineV.fs x35) 71).2.2.2 ≠ 0 := by omega
     refine zE (zA (K11 zS (zF (zD (zI (zJ (zE (zA (zX (zH ?_))))))))))
     refine zO [.tmp 4] [(.int .i64 ((toldC (LineV.fs x35) 71).2.2.2))] rfl rfl ⟨by kernel_rfl, trivial⟩ ?_
     show L _ _ _ _ _ _ (Fm.put _ _ (.int .i64 ((toldC (LineV.fs x35) 71).2.2.2))) _
     refine zE ?_
     refine ⟨rfl, ?_⟩
     refine K44 (yE 7 (.int .i64 ((toldC (LineV.fs x35) 71).2.2.2)) rfl) (zC (zG (zC (zC (zG (zC zK)))))) (by kernel_rfl) (fun _ => by kernel_rfl) ?_
     refine K11 yQ ?_
     refine zA (zF (zD (zI (K22 (yD .i64 ((toldC (LineV.fs x35) 71).2.2.2) 0 ((toldC (LineV.fs x35) 71).2.2.2 ≠ 0) rfl (cmp_ne ((toldC (LineV.fs x35) 71).2.2.2) 0)) ?_ ?_))))
     ·intro h137
      replace h137 : (toldC (LineV.fs x35) 71).2.2.2 ≠ 0 := by omega
      refine zE (zA (K11 zS (zF (K31 (W_draws 9) ?_))))
      intro w138 hB139
      replace hb := hb.trans (hB139.mono hs)
      replace hs := Nat.le_trans hs (hB139.size)
      replace o_x11 := zB o_x11 hB139
      refine K44 (yE 0 (S f) rfl) (zC (zG (zC (zC (zG (zC zK)))))) (by kernel_rfl) (fun _ => by kernel_rfl) ?_
      refine K44 (yE 1 (.pointer (some ⟨b43, 0, none⟩)) rfl) (zC (zG (zC (zC (zG (zC zK)))))) (by kernel_rfl) (fun _ => by kernel_rfl) ?_
      refine K44 (yE 3 (.int .i64 ((toldC (LineV.fs x35) 71).2.2.2)) rfl) (zC (zG (zC (zC (zG (zC zK)))))) (by kernel_rfl) (fun _ => by kernel_rfl) ?_
      refine K44 (yE 7 (.pointer none) rfl) (zC (zG (zC (zC (zG (zC zK)))))) (by kernel_rfl) (fun _ => by kernel_rfl) ?_
      refine K11 (yJ 2) ?_
      refine yZ 2 rfl ?_ rfl
      refine K22 (zZ b43 0 (.int .i64 x35.1)) (zM o_x11 rfl) (zE ?_)
      refine ⟨rfl, ?_⟩
      refine K44 (yE 4 (Value.agg #[(S f), (.int .i64 x35.1), (.int .i64 ((toldC (LineV.fs x35) 71).2.2.2))]) rfl) (zC (zG (zC (zC (zG (zC zK)))))) (by kernel_rfl) (fun _ => by kernel_rfl) ?_
      refine K11 (yJ 5) ?_
      refine yZ 5 rfl ?_ rfl
      refine K21 (yW (fun b => .pointer (some ⟨b, 0, none⟩)) (.cells [(S f), (.int .i64 x35.1), (.int .i64 ((toldC (LineV.fs x35) 71).2.2.2))].toArray 75 (0, 0))) ?_
      intro b140 w141 hN142
      have g_x60 : w.heap.size ≤ b140 := by rw [hN142.num]; exact hs
      replace hb := hb.trans (hN142.below.mono hs)
      replace hs := Nat.le_trans hs (hN142.below.size)
      have o_x60 := hN142.here
      refine zE ?_
      refine ⟨rfl, ?_⟩
      refine K44 (yE 6 (.iface 73 (.pointer (some ⟨b140, 0, none⟩))) rfl) (zC (zG (zC (zC (zG (zC zK)))))) (by kernel_rfl) (fun _ => by kernel_rfl) ?_
      refine K44 (yE 8 (.iface 73 (.pointer (some ⟨b140, 0, none⟩))) rfl) (zC (zG (zC (zC (zG (zC zK)))))) (by kernel_rfl) (fun _ => by kernel_rfl) ?_
      refine K11 yQ ?_
      refine zA (zX (zU (zH (zH (zU (zH (end_retM (ds := []) hds ?_)))))))
      refine Lv_nil [.tmp 4, .tmp 5] [(.pointer none), (.iface 73 (.pointer (some ⟨b140, 0, none⟩)))] rfl ⟨by kernel_rfl, by kernel_rfl, trivial⟩ ?_
      have oE : w141.heap[b140]? = some (.cells [(S f), (.int .i64 ((clsF s).2.1)), (.int .i64 ((clsF s).2.2))].toArray 75 (0, 0)) := by (rw [cb_miss i3 (by assumption) (by assumption) (by assumption)]; exact o_x60)
      exact ⟨b140, xG (rfl) (rfl), oE, g_x60, hb⟩
     ·intro h143
      replace h143 : (toldC (LineV.fs x35) 71).2.2.2 = 0 := by omega
      exact absurd h143 h136
    ·intro h144
     replace h144 : (toldC (LineV.fs x35) 71).2.2.2 = 0 := by omega
     refine zE (zA (K11 zN (zV (zA (zF (K31 (W_draws 13) ?_))))))
     intro w145 hB146
     replace hb := hb.trans (hB146.mono hs)
     replace hs := Nat.le_trans hs (hB146.size)
     replace o_cb11 := zB o_cb11 hB146
     replace o_cb15 := zB o_cb15 hB146
     replace o_cb19 := zB o_cb19 hB146
     replace o_x30 := zB o_x30 hB146
     replace o_x8 := zB o_x8 hB146
     replace o_xi4_5 := zB o_xi4_5 hB146
     replace r_q2 := r_q2.below hB146
     replace r_b28 := r_b28.below hB146
     replace r_cb11_0 := r_cb11_0.below hB146
     replace r_cb15_0 := r_cb15_0.below hB146
     replace r_x30_2 := r_x30_2.below hB146
     refine K44 (yE 0 (.pointer (some ⟨b20, 0, none⟩)) rfl) (zC zR) (by kernel_rfl) (fun _ => by kernel_rfl) ?_
     refine K44 (yE 1 (.pointer (some ⟨b20, 0, none⟩)) rfl) (zC zR) (by kernel_rfl) (fun _ => by kernel_rfl) ?_
     refine K44 (yE 2 (.pointer (some ⟨b20, 0, none⟩)) rfl) (zC zR) (by kernel_rfl) (fun _ => by kernel_rfl) ?_
     refine K44 (yE 3 (.pointer (some ⟨b20, 2, none⟩)) rfl) (zC zR) (by kernel_rfl) (fun _ => by kernel_rfl) ?_
     refine K44 (yE 6 (.int .u8 ((toldC (LineV.fs x35) 71).2.2.1)) rfl) (zC zR) (by kernel_rfl) (fun _ => by kernel_rfl) ?_
     refine K12 (I_all2 4 5) ?_ ?_
     ·skip
      refine yZ 4 rfl ?_ rfl
      refine K22 (zZ b20 2 v_x30_2) (zM o_x30 rfl) (zE ?_)
      refine ⟨rfl, ?_⟩
      refine K11 (yJ 5) ?_
      refine yZ 5 rfl ?_ rfl
      refine K32 (yH b131 0 [(.int .i32 ((toldC (LineV.fs x35) 71).1)), (.int .i32 ((toldC (LineV.fs x35) 71).2.1))]) (K10 (yN o_xi4_5 0)) (zE ?_)
      refine ⟨rfl, ?_⟩
      refine K44 (yE 7 (Value.agg #[(.int .i32 ((toldC (LineV.fs x35) 71).1)), (.int .i32 ((toldC (LineV.fs x35) 71).2.1)), (.int .u8 ((toldC (LineV.fs x35) 71).2.2.1))]) rfl) (zC zR) (by kernel_rfl) (fun _ => by kernel_rfl) ?_
      refine K11 (yJ 8) ?_
      refine yZ 8 rfl ?_ rfl
      refine K21 (yW (fun b => .slice (some ⟨b, 0, none⟩) 1 1) (.cells [(.int .i32 ((toldC (LineV.fs x35) 71).1)), (.int .i32 ((toldC (LineV.fs x35) 71).2.1)), (.int .u8 ((toldC (LineV.fs x35) 71).2.2.1))].toArray 45 (0, 0))) ?_
      intro b147 w148 hN149
      have g_b147 : w.heap.size ≤ b147 := by rw [hN149.num]; exact hs
      have ap_r_x30_2_r_b147 : Value.ownBlock v_x30_2 = none ∨ Value.ownBlock v_x30_2 ≠ Value.ownBlock (.slice (some ⟨b147, 0, none⟩) 1 1) := .inr (r_x30_2.new_ne hN149)
      have ap_r_b147_r_x30_2 := ap_comm ap_r_x30_2_r_b147
      replace hb := hb.trans (hN149.below.mono hs)
      replace hs := Nat.le_trans hs (hN149.below.size)
      replace o_cb11 := zB o_cb11 hN149.below
      replace o_cb15 := zB o_cb15 hN149.below
      replace o_cb19 := zB o_cb19 hN149.below
      replace o_x30 := zB o_x30 hN149.below
      replace o_x8 := zB o_x8 hN149.below
      replace r_q2 := r_q2.below hN149.below
      replace r_b28 := r_b28.below hN149.below
      replace r_cb11_0 := r_cb11_0.below hN149.below
      replace r_cb15_0 := r_cb15_0.below hN149.below
      replace r_x30_2 := r_x30_2.below hN149.below
      have r_b147 : Row w148 w.heap.size 45 3 encSpanC (.slice (some ⟨b147, 0, none⟩) 1 1) ([((toldC (LineV.fs x35) 71).1, (toldC (LineV.fs x35) 71).2.1, (toldC (LineV.fs x35) 71).2.2.1)] : List (Int × Int × Int)) := Row.made ([((toldC (LineV.fs x35) 71).1, (toldC (LineV.fs x35) 71).2.1, (toldC (LineV.fs x35) 71).2.2.1)] : List (Int × Int × Int)) hN149 g_b147 rfl rfl (by first | decide | (simp; done))
      refine zE ?_
      refine ⟨rfl, ?_⟩
      refine K11 (yJ 9) ?_
      refine yZ 9 rfl ?_ rfl
      refine K31 (L_appAll el42 w.heap.size v_x30_2 (.slice (some ⟨b147, 0, none⟩) 1 1) mm ([((toldC (LineV.fs x35) 71).1, (toldC (LineV.fs x35) 71).2.1, (toldC (LineV.fs x35) 71).2.2.1)] : List (Int × Int × Int)) hs r_x30_2 r_b147.rd (by (simp only [List.length_append, List.length_cons, List.length_nil] <;> omega)) (fun _ => rfl) (fun _ => rfl)) ?_
      intro v150 w151 hr152 hg153 how154 
      have nap_r_b147 := ap_app2 r_b147 how154 ap_r_b147_r_x30_2
      replace hb := hb.grown hg153 hs (fun k hk => (World.ownsRow.lt r_x30_2 k hk).1)
      replace hs := Nat.le_trans hs (hg153.size)
      replace o_cb11 := yF o_cb11 hg153 (r_x30_2.ne o_cb11 (by simp))
      replace o_cb15 := yF o_cb15 hg153 (r_x30_2.ne o_cb15 (by simp))
      replace o_cb19 := yF o_cb19 hg153 (r_x30_2.ne o_cb19 (by simp))
      replace o_x30 := yF o_x30 hg153 (r_x30_2.ne o_x30 (by simp))
      replace o_x8 := yF o_x8 hg153 (r_x30_2.ne o_x8 (by simp))
      replace r_q2 := r_q2.grown hg153 (r_q2.apart r_x30_2 (by kernel_rfl))
      replace r_b28 := r_b28.grown hg153 (r_b28.apart r_x30_2 (by kernel_rfl))
      replace r_cb11_0 := r_cb11_0.grown hg153 (r_cb11_0.apart r_x30_2 (by kernel_rfl))
      replace r_cb15_0 := r_cb15_0.grown hg153 (r_cb15_0.apart r_x30_2 (by kernel_rfl))
      replace r_x30_2 := hr152
      refine zE ?_
      refine ⟨rfl, ?_⟩
      refine K44 (yE 10 (.pointer (some ⟨b20, 0, none⟩)) rfl) (zC zR) (by kernel_rfl) (fun _ => by kernel_rfl) ?_
      refine K44 (yE 11 (.pointer (some ⟨b20, 2, none⟩)) rfl) (zC zR) (by kernel_rfl) (fun _ => by kernel_rfl) ?_
      refine K11 (yJ 12) ?_
      refine yZ 12 rfl ?_ rfl
      refine K26 (xC b20 2 v150 [(.pointer (some ⟨cb11, 0, none⟩)), (.pointer (some ⟨cb15, 0, none⟩)), v_x30_2, (.pointer (some ⟨cb19, 0, none⟩))] [(.pointer (some ⟨cb11, 0, none⟩)), (.pointer (some ⟨cb15, 0, none⟩)), v150, (.pointer (some ⟨cb19, 0, none⟩))] 66) r_x30_2.one (by kernel_rfl) o_x30 (by simp) rfl ?_
      intro w155 hW156
      replace hb := hb.trans (hW156.below g_x30)
      replace hs := Nat.le_trans hs (Nat.le_of_eq hW156.size.symm)
      replace o_cb11 := zL o_cb11 hW156 (zT o_cb11 o_x30 (by simp))
      replace o_cb15 := zL o_cb15 hW156 (zT o_cb15 o_x30 (by simp))
      replace o_cb19 := zL o_cb19 hW156 (zT o_cb19 o_x30 (by simp))
      replace o_x8 := zL o_x8 hW156 (zT o_x8 o_x30 (by simp))
      replace r_q2 := r_q2.wrote hW156 (r_q2.ne o_x30 (by simp))
      replace r_b28 := r_b28.wrote hW156 (r_b28.ne o_x30 (by simp))
      replace r_cb11_0 := r_cb11_0.wrote hW156 (r_cb11_0.ne o_x30 (by simp))
      replace r_cb15_0 := r_cb15_0.wrote hW156 (r_cb15_0.ne o_x30 (by simp))
      replace r_x30_2 := r_x30_2.wrote hW156 (r_x30_2.ne o_x30 (by simp))
      replace o_x30 := hW156.here
      refine zE ?_
      refine ⟨rfl, ?_⟩
      refine K11 yQ ?_
      refine zA (zF (zD (zJ (zE (zA (zX ?_))))))
      refine zO [.tmp 4] [(.int .i64 0)] rfl rfl ⟨by kernel_rfl, trivial⟩ ?_
      show L _ _ _ _ _ _ (Fm.put _ _ (.int .i64 0)) _
      refine zE ?_
      refine ⟨rfl, ?_⟩
      refine K44 (yE 7 (.int .i64 0) rfl) (zC (zG (zC (zC (zG (zC zK)))))) (by kernel_rfl) (fun _ => by kernel_rfl) ?_
      refine K11 yQ ?_
      refine zA (zF (zD (zI (K21 (zQ (.bool false)) (zE (zA (K11 zN (zV (zP (zA (zD (K21 (xD i 1 (by omega)) (zI (zE ?_))))))))))))))
      refine zA ⟨_, ?_, (i + 1), am, lm, (mm ++ ([((toldC (LineV.fs x35) 71).1, (toldC (LineV.fs x35) 71).2.1, (toldC (LineV.fs x35) 71).2.2.1)] : List (Int × Int × Int))), v_cb11_0, v_cb15_0, v150, rfl, hds, by kernel_rfl, by kernel_rfl, by kernel_rfl, by kernel_rfl, by kernel_rfl, by kernel_rfl, r_q2, r_b28, r_cb11_0, r_cb15_0, r_x30_2, o_cb11, o_cb15, o_cb19, o_x30, o_x8, hb, hs, ?_, ?_, ?_, ?_, ?_, ?_⟩
      ·omega
      ·omega
      ·exact invC_on i3 (by assumption) (st_miss (by assumption) (by assumption))
      ·exact oa
      ·exact ol
      ·(simp only [List.length_append, List.length_cons, List.length_nil]; omega)
      ·first | exact om | exact rng_snoc om _ _ _
     ·skip
      refine yZ 5 rfl ?_ rfl
      refine K32 (yH b131 0 [(.int .i32 ((toldC (LineV.fs x35) 71).1)), (.int .i32 ((toldC (LineV.fs x35) 71).2.1))]) (K10 (yN o_xi4_5 0)) (zE ?_)
      refine ⟨rfl, ?_⟩
      refine K44 (yE 7 (Value.agg #[(.int .i32 ((toldC (LineV.fs x35) 71).1)), (.int .i32 ((toldC (LineV.fs x35) 71).2.1)), (.int .u8 ((toldC (LineV.fs x35) 71).2.2.1))]) rfl) (zC zR) (by kernel_rfl) (fun _ => by kernel_rfl) ?_
      refine K12 (I_all2 4 8) ?_ ?_
      ·skip
       refine yZ 4 rfl ?_ rfl
       refine K22 (zZ b20 2 v_x30_2) (zM o_x30 rfl) (zE ?_)
       refine ⟨rfl, ?_⟩
       refine K11 (yJ 8) ?_
       refine yZ 8 rfl ?_ rfl
       refine K21 (yW (fun b => .slice (some ⟨b, 0, none⟩) 1 1) (.cells [(.int .i32 ((toldC (LineV.fs x35) 71).1)), (.int .i32 ((toldC (LineV.fs x35) 71).2.1)), (.int .u8 ((toldC (LineV.fs x35) 71).2.2.1))].toArray 45 (0, 0))) ?_
       intro b157 w158 hN159
       have g_b157 : w.heap.size ≤ b157 := by rw [hN159.num]; exact hs
       have ap_r_x30_2_r_b157 : Value.ownBlock v_x30_2 = none ∨ Value.ownBlock v_x30_2 ≠ Value.ownBlock (.slice (some ⟨b157, 0, none⟩) 1 1) := .inr (r_x30_2.new_ne hN159)
       have ap_r_b157_r_x30_2 := ap_comm ap_r_x30_2_r_b157
       replace hb := hb.trans (hN159.below.mono hs)
       replace hs := Nat.le_trans hs (hN159.below.size)
       replace o_cb11 := zB o_cb11 hN159.below
       replace o_cb15 := zB o_cb15 hN159.below
       replace o_cb19 := zB o_cb19 hN159.below
       replace o_x30 := zB o_x30 hN159.below
       replace o_x8 := zB o_x8 hN159.below
       replace r_q2 := r_q2.below hN159.below
       replace r_b28 := r_b28.below hN159.below
       replace r_cb11_0 := r_cb11_0.below hN159.below
       replace r_cb15_0 := r_cb15_0.below hN159.below
       replace r_x30_2 := r_x30_2.below hN159.below
       have r_b157 : Row w158 w.heap.size 45 3 encSpanC (.slice (some ⟨b157, 0, none⟩) 1 1) ([((toldC (LineV.fs x35) 71).1, (toldC (LineV.fs x35) 71).2.1, (toldC (LineV.fs x35) 71).2.2.1)] : List (Int × Int × Int)) := Row.made ([((toldC (LineV.fs x35) 71).1, (toldC (LineV.fs x35) 71).2.1, (toldC (LineV.fs x35) 71).2.2.1)] : List (Int × Int × Int)) hN159 g_b157 rfl rfl (by first | decide | (simp; done))
       refine zE ?_
       refine ⟨rfl, ?_⟩
       refine K11 (yJ 9) ?_
       refine yZ 9 rfl ?_ rfl
       refine K31 (L_appAll el42 w.heap.size v_x30_2 (.slice (some ⟨b157, 0, none⟩) 1 1) mm ([((toldC (LineV.fs x35) 71).1, (toldC (LineV.fs x35) 71).2.1, (toldC (LineV.fs x35) 71).2.2.1)] : List (Int × Int × Int)) hs r_x30_2 r_b157.rd (by (simp only [List.length_append, List.length_cons, List.length_nil] <;> omega)) (fun _ => rfl) (fun _ => rfl)) ?_
       intro v160 w161 hr162 hg163 how164 
       have nap_r_b157 := ap_app2 r_b157 how164 ap_r_b157_r_x30_2
       replace hb := hb.grown hg163 hs (fun k hk => (World.ownsRow.lt r_x30_2 k hk).1)
       replace hs := Nat.le_trans hs (hg163.size)
       replace o_cb11 := yF o_cb11 hg163 (r_x30_2.ne o_cb11 (by simp))
       replace o_cb15 := yF o_cb15 hg163 (r_x30_2.ne o_cb15 (by simp))
       replace o_cb19 := yF o_cb19 hg163 (r_x30_2.ne o_cb19 (by simp))
       replace o_x30 := yF o_x30 hg163 (r_x30_2.ne o_x30 (by simp))
       replace o_x8 := yF o_x8 hg163 (r_x30_2.ne o_x8 (by simp))
       replace r_q2 := r_q2.grown hg163 (r_q2.apart r_x30_2 (by kernel_rfl))
       replace r_b28 := r_b28.grown hg163 (r_b28.apart r_x30_2 (by kernel_rfl))
       replace r_cb11_0 := r_cb11_0.grown hg163 (r_cb11_0.apart r_x30_2 (by kernel_rfl))
       replace r_cb15_0 := r_cb15_0.grown hg163 (r_cb15_0.apart r_x30_2 (by kernel_rfl))
       replace r_x30_2 := hr162
       refine zE ?_
       refine ⟨rfl, ?_⟩
       refine K44 (yE 10 (.pointer (some ⟨b20, 0, none⟩)) rfl) (zC zR) (by kernel_rfl) (fun _ => by kernel_rfl) ?_
       refine K44 (yE 11 (.pointer (some ⟨b20, 2, none⟩)) rfl) (zC zR) (by kernel_rfl) (fun _ => by kernel_rfl) ?_
       refine K11 (yJ 12) ?_
       refine yZ 12 rfl ?_ rfl
       refine K26 (xC b20 2 v160 [(.pointer (some ⟨cb11, 0, none⟩)), (.pointer (some ⟨cb15, 0, none⟩)), v_x30_2, (.pointer (some ⟨cb19, 0, none⟩))] [(.pointer (some ⟨cb11, 0, none⟩)), (.pointer (some ⟨cb15, 0, none⟩)), v160, (.pointer (some ⟨cb19, 0, none⟩))] 66) r_x30_2.one (by kernel_rfl) o_x30 (by simp) rfl ?_
       intro w165 hW166
       replace hb := hb.trans (hW166.below g_x30)
       replace hs := Nat.le_trans hs (Nat.le_of_eq hW166.size.symm)
       replace o_cb11 := zL o_cb11 hW166 (zT o_cb11 o_x30 (by simp))
       replace o_cb15 := zL o_cb15 hW166 (zT o_cb15 o_x30 (by simp))
       replace o_cb19 := zL o_cb19 hW166 (zT o_cb19 o_x30 (by simp))
       replace o_x8 := zL o_x8 hW166 (zT o_x8 o_x30 (by simp))
       replace r_q2 := r_q2.wrote hW166 (r_q2.ne o_x30 (by simp))
       replace r_b28 := r_b28.wrote hW166 (r_b28.ne o_x30 (by simp))
       replace r_cb11_0 := r_cb11_0.wrote hW166 (r_cb11_0.ne o_x30 (by simp))
       replace r_cb15_0 := r_cb15_0.wrote hW166 (r_cb15_0.ne o_x30 (by simp))
       replace r_x30_2 := r_x30_2.wrote hW166 (r_x30_2.ne o_x30 (by simp))
       replace o_x30 := hW166.here
       refine zE ?_
       refine ⟨rfl, ?_⟩
       refine K11 yQ ?_
       refine zA (zF (zD (zJ (zE (zA (zX ?_))))))
       refine zO [.tmp 4] [(.int .i64 0)] rfl rfl ⟨by kernel_rfl, trivial⟩ ?_
       show L _ _ _ _ _ _ (Fm.put _ _ (.int .i64 0)) _
       refine zE ?_
       refine ⟨rfl, ?_⟩
       refine K44 (yE 7 (.int .i64 0) rfl) (zC (zG (zC (zC (zG (zC zK)))))) (by kernel_rfl) (fun _ => by kernel_rfl) ?_
       refine K11 yQ ?_
       refine zA (zF (zD (zI (K21 (zQ (.bool false)) (zE (zA (K11 zN (zV (zP (zA (zD (K21 (xD i 1 (by omega)) (zI (zE ?_))))))))))))))
       refine zA ⟨_, ?_, (i + 1), am, lm, (mm ++ ([((toldC (LineV.fs x35) 71).1, (toldC (LineV.fs x35) 71).2.1, (toldC (LineV.fs x35) 71).2.2.1)] : List (Int × Int × Int))), v_cb11_0, v_cb15_0, v160, rfl, hds, by kernel_rfl, by kernel_rfl, by kernel_rfl, by kernel_rfl, by kernel_rfl, by kernel_rfl, r_q2, r_b28, r_cb11_0, r_cb15_0, r_x30_2, o_cb11, o_cb15, o_cb19, o_x30, o_x8, hb, hs, ?_, ?_, ?_, ?_, ?_, ?_⟩
       ·omega
       ·omega
       ·exact invC_on i3 (by assumption) (st_miss (by assumption) (by assumption))
       ·exact oa
       ·exact ol
       ·(simp only [List.length_append, List.length_cons, List.length_nil]; omega)
       ·first | exact om | exact rng_snoc om _ _ _
      ·skip
       refine yZ 8 rfl ?_ rfl
       refine K21 (yW (fun b => .slice (some ⟨b, 0, none⟩) 1 1) (.cells [(.int .i32 ((toldC (LineV.fs x35) 71).1)), (.int .i32 ((toldC (LineV.fs x35) 71).2.1)), (.int .u8 ((toldC (LineV.fs x35) 71).2.2.1))].toArray 45 (0, 0))) ?_
       intro b167 w168 hN169
       have g_b167 : w.heap.size ≤ b167 := by rw [hN169.num]; exact hs
       have ap_r_x30_2_r_b167 : Value.ownBlock v_x30_2 = none ∨ Value.ownBlock v_x30_2 ≠ Value.ownBlock (.slice (some ⟨b167, 0, none⟩) 1 1) := .inr (r_x30_2.new_ne hN169)
       have ap_r_b167_r_x30_2 := ap_comm ap_r_x30_2_r_b167
       replace hb := hb.trans (hN169.below.mono hs)
       replace hs := Nat.le_trans hs (hN169.below.size)
       replace o_cb11 := zB o_cb11 hN169.below
       replace o_cb15 := zB o_cb15 hN169.below
       replace o_cb19 := zB o_cb19 hN169.below
       replace o_x30 := zB o_x30 hN169.below
       replace o_x8 := zB o_x8 hN169.below
       replace r_q2 := r_q2.below hN169.below
       replace r_b28 := r_b28.below hN169.below
       replace r_cb11_0 := r_cb11_0.below hN169.below
       replace r_cb15_0 := r_cb15_0.below hN169.below
       replace r_x30_2 := r_x30_2.below hN169.below
       have r_b167 : Row w168 w.heap.size 45 3 encSpanC (.slice (some ⟨b167, 0, none⟩) 1 1) ([((toldC (LineV.fs x35) 71).1, (toldC (LineV.fs x35) 71).2.1, (toldC (LineV.fs x35) 71).2.2.1)] : List (Int × Int × Int)) := Row.made ([((toldC (LineV.fs x35) 71).1, (toldC (LineV.fs x35) 71).2.1, (toldC (LineV.fs x35) 71).2.2.1)] : List (Int × Int × Int)) hN169 g_b167 rfl rfl (by first | decide | (simp; done))
       refine zE ?_
       refine ⟨rfl, ?_⟩
       refine K11 (yJ 4) ?_
       refine yZ 4 rfl ?_ rfl
       refine K22 (zZ b20 2 v_x30_2) (zM o_x30 rfl) (zE ?_)
       refine ⟨rfl, ?_⟩
       refine K11 (yJ 9) ?_
       refine yZ 9 rfl ?_ rfl
       refine K31 (L_appAll el42 w.heap.size v_x30_2 (.slice (some ⟨b167, 0, none⟩) 1 1) mm ([((toldC (LineV.fs x35) 71).1, (toldC (LineV.fs x35) 71).2.1, (toldC (LineV.fs x35) 71).2.2.1)] : List (Int × Int × Int)) hs r_x30_2 r_b167.rd (by (simp only [List.length_append, List.length_cons, List.length_nil] <;> omega)) (fun _ => rfl) (fun _ => rfl)) ?_
       intro v170 w171 hr172 hg173 how174 
       have nap_r_b167 := ap_app2 r_b167 how174 ap_r_b167_r_x30_2
       replace hb := hb.grown hg173 hs (fun k hk => (World.ownsRow.lt r_x30_2 k hk).1)
       replace hs := Nat.le_trans hs (hg173.size)
       replace o_cb11 := yF o_cb11 hg173 (r_x30_2.ne o_cb11 (by simp))
       replace o_cb15 := yF o_cb15 hg173 (r_x30_2.ne o_cb15 (by simp))
       replace o_cb19 := yF o_cb19 hg173 (r_x30_2.ne o_cb19 (by simp))
       replace o_x30 := yF o_x30 hg173 (r_x30_2.ne o_x30 (by simp))
       replace o_x8 := yF o_x8 hg173 (r_x30_2.ne o_x8 (by simp))
       replace r_q2 := r_q2.grown hg173 (r_q2.apart r_x30_2 (by kernel_rfl))
       replace r_b28 := r_b28.grown hg173 (r_b28.apart r_x30_2 (by kernel_rfl))
       replace r_cb11_0 := r_cb11_0.grown hg173 (r_cb11_0.apart r_x30_2 (by kernel_rfl))
       replace r_cb15_0 := r_cb15_0.grown hg173 (r_cb15_0.apart r_x30_2 (by kernel_rfl))
       replace r_x30_2 := hr172
       refine zE ?_
       refine ⟨rfl, ?_⟩
       refine K44 (yE 10 (.pointer (some ⟨b20, 0, none⟩)) rfl) (zC zR) (by kernel_rfl) (fun _ => by kernel_rfl) ?_
       refine K44 (yE 11 (.pointer (some ⟨b20, 2, none⟩)) rfl) (zC zR) (by kernel_rfl) (fun _ => by kernel_rfl) ?_
       refine K11 (yJ 12) ?_
       refine yZ 12 rfl ?_ rfl
       refine K26 (xC b20 2 v170 [(.pointer (some ⟨cb11, 0, none⟩)), (.pointer (some ⟨cb15, 0, none⟩)), v_x30_2, (.pointer (some ⟨cb19, 0, none⟩))] [(.pointer (some ⟨cb11, 0, none⟩)), (.pointer (some ⟨cb15, 0, none⟩)), v170, (.pointer (some ⟨cb19, 0, none⟩))] 66) r_x30_2.one (by kernel_rfl) o_x30 (by simp) rfl ?_
       intro w175 hW176
       replace hb := hb.trans (hW176.below g_x30)
       replace hs := Nat.le_trans hs (Nat.le_of_eq hW176.size.symm)
       replace o_cb11 := zL o_cb11 hW176 (zT o_cb11 o_x30 (by simp))
       replace o_cb15 := zL o_cb15 hW176 (zT o_cb15 o_x30 (by simp))
       replace o_cb19 := zL o_cb19 hW176 (zT o_cb19 o_x30 (by simp))
       replace o_x8 := zL o_x8 hW176 (zT o_x8 o_x30 (by simp))
       replace r_q2 := r_q2.wrote hW176 (r_q2.ne o_x30 (by simp))
       replace r_b28 := r_b28.wrote hW176 (r_b28.ne o_x30 (by simp))
       replace r_cb11_0 := r_cb11_0.wrote hW176 (r_cb11_0.ne o_x30 (by simp))
       replace r_cb15_0 := r_cb15_0.wrote hW176 (r_cb15_0.ne o_x30 (by simp))
       replace r_x30_2 := r_x30_2.wrote hW176 (r_x30_2.ne o_x30 (by simp))
       replace o_x30 := hW176.here
       refine zE ?_
       refine ⟨rfl, ?_⟩
       refine K11 yQ ?_
       refine zA (zF (zD (zJ (zE (zA (zX ?_))))))
       refine zO [.tmp 4] [(.int .i64 0)] rfl rfl ⟨by kernel_rfl, trivial⟩ ?_
       show L _ _ _ _ _ _ (Fm.put _ _ (.int .i64 0)) _
       refine zE ?_
       refine ⟨rfl, ?_⟩
       refine K44 (yE 7 (.int .i64 0) rfl) (zC (zG (zC (zC (zG (zC zK)))))) (by kernel_rfl) (fun _ => by kernel_rfl) ?_
       refine K11 yQ ?_
       refine zA (zF (zD (zI (K21 (zQ (.bool false)) (zE (zA (K11 zN (zV (zP (zA (zD (K21 (xD i 1 (by omega)) (zI (zE ?_))))))))))))))
       refine zA ⟨_, ?_, (i + 1), am, lm, (mm ++ ([((toldC (LineV.fs x35) 71).1, (toldC (LineV.fs x35) 71).2.1, (toldC (LineV.fs x35) 71).2.2.1)] : List (Int × Int × Int))), v_cb11_0, v_cb15_0, v170, rfl, hds, by kernel_rfl, by kernel_rfl, by kernel_rfl, by kernel_rfl, by kernel_rfl, by kernel_rfl, r_q2, r_b28, r_cb11_0, r_cb15_0, r_x30_2, o_cb11, o_cb15, o_cb19, o_x30, o_x8, hb, hs, ?_, ?_, ?_, ?_, ?_, ?_⟩
       ·omega
       ·omega
       ·exact invC_on i3 (by assumption) (st_miss (by assumption) (by assumption))
       ·exact oa
       ·exact ol
       ·(simp only [List.length_append, List.length_cons, List.length_nil]; omega)
       ·first | exact om | exact rng_snoc om _ _ _
  ·intro h177
   replace h177 : (l6).length ≤ i := by omega
   exfalso; exact hbad (by rw [invC_end i3 (by assumption)])
 ·skip
  refine K22 (yA 27 [(S f), (S s)]) (c_lines_Read_bad f s _ (by omega) (by omega)) ?_
  rintro _ w178 ⟨cb181, rfl, o_cb181, g_cb181, hB179⟩
  replace g_cb181 := Nat.le_trans hs g_cb181
  replace hb := hb.trans (hB179.mono hs)
  replace hs := Nat.le_trans hs (hB179.size)
  refine zI (K21 (zQ (.slice none 0 0)) (K21 (zQ (.iface 73 (.pointer (some ⟨cb181, 0, none⟩)))) (zJ (zJ (zE (zA (zF (zF (zD (zI (K21 (zQ (.bool true)) (zE (zA (K11 zS (zF (zD (zI (zJ (zJ (zE (zA (zX (zH (K11 (end_retM (ds := [])) ?_))))))))))))))))))))))))
  refine Lv_nil [.tmp 4, .tmp 5] [(.pointer none), (.iface 73 (.pointer (some ⟨cb181, 0, none⟩)))] rfl ⟨by kernel_rfl, by kernel_rfl, trivial⟩ ?_
  have oE : w178.heap[cb181]? = some (.cells [(S f), (.int .i64 ((clsF s).2.1)), (.int .i64 ((clsF s).2.2))].toArray 75 (0, 0)) := by (rw [cls_bad (by assumption)]; exact o_cb181)
  exact ⟨cb181, xG (rfl) (rfl), oE, g_cb181, hb⟩
end Go.Proofs.YtkclikfejmeblaaGreatDoor
end

/- === Wctb2 === -/
section
/- Walks, written by my program walk.py out of the specification ctb2.py: each theorem says what one function returns and that it leaves memory as it was. -/
namespace Go.Proofs.YtkclikfejmeblaaGreatDoor
open Go Go.RowKit Go.FK
set_option maxHeartbeats 4000000
set_option maxRecDepth 100000
set_option linter.unusedVariables false
set_option linter.unusedSimpArgs false
theorem c_tnone (b_t : Nat) (b_nm : Nat) (b_ln : Nat) (v_mm : Value) (b_wh : Nat) (w : World) (o_t : w.heap[b_t]? = some (.cells [(.pointer (some ⟨b_nm, 0, none⟩)), (.pointer (some ⟨b_ln, 0, none⟩)), v_mm, (.pointer (some ⟨b_wh, 0, none⟩))].toArray 66 (0, 0))) :
  Calls Tryz.prog 38 #[(.pointer (some ⟨b_t, 0, none⟩))] w (Ret fun v w' => v = (.bool false) ∧ Below w.heap.size w w') := by
 refine K11 (enter (args := [(.pointer (some ⟨b_t, 0, none⟩))]) Tryz.func38 rfl (by kernel_rfl : _ = 12)) ?_
 have hb := Below.refl w.heap.size w
 have hs : w.heap.size ≤ w.heap.size := Nat.le_refl _
 refine zF (zD (zJ (zE (zA (zF (zD (zI (K21 (zQ (.bool false)) (zI (K11 zY (zI (K11 zY (K21 (zQ (.pointer (some ⟨b_t, 0, none⟩))) (K11 zY (K21 (zQ (.pointer (some ⟨b_t, 3, none⟩))) (K11 zY (K22 (zZ b_t 3 (.pointer (some ⟨b_wh, 0, none⟩))) (zM o_t rfl) (K11 zY (K21 (zQ (.bool false)) (K11 yV (zJ (zE (zA (zX ?_))))))))))))))))))))))))
 refine zO [.tmp 2] [(.bool false)] rfl rfl ⟨by kernel_rfl, trivial⟩ ?_
 have e0 : false = false := by rfl
 exact ⟨congrArg Value.bool e0, hb⟩
theorem c_plain (r : Int) (w : World) :
  Calls Tryz.prog 40 #[(.int .i32 r)] w (Ret fun v w' => v = (.int .i32 (plainF r)) ∧ Below w.heap.size w w') := by
 refine K11 (enter (args := [(.int .i32 r)]) Tryz.func40 rfl (by kernel_rfl : _ = 10)) ?_
 have hb := Below.refl w.heap.size w
 have hs : w.heap.size ≤ w.heap.size := Nat.le_refl _
 refine zF (zD (zJ (zE (zA (zF (zF (zD (zI (K22 (yD .i32 r 0 (r < 0) rfl (cmp_lt r 0)) ?_ ?_)))))))))
 ·intro h1
  replace h1 : r < 0 := by omega
  refine zI (K11 yC (K11 yC (K11 yU (zE (zA (K11 zS (zF (zD (zJ (zE (zA (zX (zH ?_)))))))))))))
  refine zO [.tmp 2] [(.int .i32 65533)] rfl rfl ⟨by kernel_rfl, trivial⟩ ?_
  have e0 : (65533 : Int) = (plainF r) := by exact plain_y (by omega)
  exact ⟨congrArg (Value.int .i32) e0, hb⟩
 ·intro h2
  replace h2 : 0 ≤ r := by omega
  refine zI (K11 zY (zI (K11 zY (K22 (yD .i32 r 1114111 (1114111 < r) rfl (cmp_gt r 1114111)) ?_ ?_))))
  ·intro h3
   replace h3 : 1114111 < r := by omega
   refine K11 yV (zE (zA (K11 zS (zF (zD (zJ (zE (zA (zX (zH ?_))))))))))
   refine zO [.tmp 2] [(.int .i32 65533)] rfl rfl ⟨by kernel_rfl, trivial⟩ ?_
   have e0 : (65533 : Int) = (plainF r) := by exact plain_y (by omega)
   exact ⟨congrArg (Value.int .i32) e0, hb⟩
  ·intro h4
   replace h4 : r ≤ 1114111 := by omega
   refine K11 yV (zE (zA (K11 zN (zV (zA (zF (zD (zI (zJ (zE (zA (zX ?_))))))))))))
   refine zO [.tmp 2] [(.int .i32 r)] rfl rfl ⟨by kernel_rfl, trivial⟩ ?_
   have e0 : (r : Int) = (plainF r) := by exact plain_n (by omega) (by omega)
   exact ⟨congrArg (Value.int .i32) e0, hb⟩
theorem c_tClass (b_t : Nat) (b_nm : Nat) (b_ln : Nat) (v_mm : Value) (b_wh : Nat) (r : Int) (v_wh : Value) (wh : List (Int × Int × Int)) (w : World) (o_t : w.heap[b_t]? = some (.cells [(.pointer (some ⟨b_nm, 0, none⟩)), (.pointer (some ⟨b_ln, 0, none⟩)), v_mm, (.pointer (some ⟨b_wh, 0, none⟩))].toArray 66 (0, 0))) (o_wh : w.heap[b_wh]? = some (.cells [v_wh, (.bool true)].toArray 115 (0, 0))) (p_wh : Rd w encSpanC v_wh wh) (hr : RiseG 0 wh) :
  Calls Tryz.prog 12 #[(.pointer (some ⟨b_t, 0, none⟩)), (.int .i32 r)] w (Ret fun v w' => v = (.int .u8 ((atM 0 wh (plainF r)).1)) ∧ Below w.heap.size w w') := by
 refine K11 (enter (args := [(.pointer (some ⟨b_t, 0, none⟩)), (.int .i32 r)]) Tryz.func12 rfl (by kernel_rfl : _ = 20)) ?_
 have hb := Below.refl w.heap.size w
 have hs : w.heap.size ≤ w.heap.size := Nat.le_refl _
 refine zF (zD (zJ (zE (zA (zF (zF (zD (zI (K22 (yA 38 [(.pointer (some ⟨b_t, 0, none⟩))]) (c_tnone b_t b_nm b_ln v_mm b_wh _ o_t) ?_)))))))))
 rintro _ w1 ⟨rfl, hB2⟩
 replace hb := hb.trans (hB2.mono hs)
 replace hs := Nat.le_trans hs (hB2.size)
 replace o_t := zB o_t hB2
 replace o_wh := zB o_wh hB2
 replace p_wh := p_wh.below hB2
 refine zE (zA (K11 zN (zV (zA (zF (K21 W_quiet (yI (yS (.pointer (some ⟨b_t, 0, none⟩)) (fun _ => by kernel_rfl) (yS (.pointer (some ⟨b_t, 3, none⟩)) (fun _ => by kernel_rfl) (K13 (yY b_t 3 (.pointer (some ⟨b_wh, 0, none⟩))) (fun _ => by kernel_rfl) (zM o_t rfl) (yI (Lq_call 40 [(.int .i32 r)] (.int .i32 (plainF r)) (fun _ _ => by kernel_rfl) (fun wq hbq => c_plain r wq ) (Lq_call 39 [(.pointer (some ⟨b_wh, 0, none⟩)), (.int .i32 (plainF r))] (.tuple #[(.int .u8 ((atM 0 wh (plainF r)).1)), (.bool ((atM 0 wh (plainF r)).2))]) (fun _ _ => by kernel_rfl) (fun wq hbq => c_at_C b_wh v_wh wh (plainF r) wq (zB o_wh hbq) (p_wh.below hbq) (by exact hr)) (yI (yS (.int .u8 ((atM 0 wh (plainF r)).1)) (fun _ => by kernel_rfl) (yS (.bool ((atM 0 wh (plainF r)).2)) (fun _ => by kernel_rfl) (Lq_as (Lq_as (xF ?_)))))))))))))))))))
 intro w4 hB5
 replace hb := hb.trans (hB5.mono hs)
 replace hs := Nat.le_trans hs (hB5.size)
 refine zA (zF (zD (zI (zJ (zE (zA (zX ?_)))))))
 refine zO [.tmp 4] [(.int .u8 ((atM 0 wh (plainF r)).1))] rfl rfl ⟨by kernel_rfl, trivial⟩ ?_
 have e0 : ((atM 0 wh (plainF r)).1 : Int) = (atM 0 wh (plainF r)).1 := by first | rfl | (simp_all; done) | omega
 exact ⟨congrArg (Value.int .u8) e0, hb⟩
theorem c_tGiven (b_t : Nat) (b_nm : Nat) (b_ln : Nat) (v_mm : Value) (b_wh : Nat) (r : Int) (v_am : Value) (am : List (Int × Int × Int)) (w : World) (o_t : w.heap[b_t]? = some (.cells [(.pointer (some ⟨b_nm, 0, none⟩)), (.pointer (some ⟨b_ln, 0, none⟩)), v_mm, (.pointer (some ⟨b_wh, 0, none⟩))].toArray 66 (0, 0))) (o_nm : w.heap[b_nm]? = some (.cells [v_am, (.bool true)].toArray 115 (0, 0))) (p_am : Rd w encSpanC v_am am) (hr : RiseG 0 am) :
  Calls Tryz.prog 13 #[(.pointer (some ⟨b_t, 0, none⟩)), (.int .i32 r)] w (Ret fun v w' => v = (.tuple #[(.int .u8 ((atM 0 am (plainF r)).1)), (.bool ((atM 0 am (plainF r)).2))]) ∧ Below w.heap.size w w') := by
 refine K11 (enter (args := [(.pointer (some ⟨b_t, 0, none⟩)), (.int .i32 r)]) Tryz.func13 rfl (by kernel_rfl : _ = 17)) ?_
 have hb := Below.refl w.heap.size w
 have hs : w.heap.size ≤ w.heap.size := Nat.le_refl _
 refine zF (zD (zJ (zJ (zE (zA (zF (zF (zD (zI (K22 (yA 38 [(.pointer (some ⟨b_t, 0, none⟩))]) (c_tnone b_t b_nm b_ln v_mm b_wh _ o_t) ?_))))))))))
 rintro _ w1 ⟨rfl, hB2⟩
 replace hb := hb.trans (hB2.mono hs)
 replace hs := Nat.le_trans hs (hB2.size)
 replace o_t := zB o_t hB2
 replace o_nm := zB o_nm hB2
 replace p_am := p_am.below hB2
 refine zE (zA (K11 zN (zV (zA (zF (K21 W_quiet (yI (yS (.pointer (some ⟨b_t, 0, none⟩)) (fun _ => by kernel_rfl) (yS (.pointer (some ⟨b_t, 0, none⟩)) (fun _ => by kernel_rfl) (K13 (yY b_t 0 (.pointer (some ⟨b_nm, 0, none⟩))) (fun _ => by kernel_rfl) (zM o_t rfl) (yI (Lq_call 40 [(.int .i32 r)] (.int .i32 (plainF r)) (fun _ _ => by kernel_rfl) (fun wq hbq => c_plain r wq ) (Lq_call 39 [(.pointer (some ⟨b_nm, 0, none⟩)), (.int .i32 (plainF r))] (.tuple #[(.int .u8 ((atM 0 am (plainF r)).1)), (.bool ((atM 0 am (plainF r)).2))]) (fun _ _ => by kernel_rfl) (fun wq hbq => c_at_C b_nm v_am am (plainF r) wq (zB o_nm hbq) (p_am.below hbq) (by exact hr)) (yS (.int .u8 ((atM 0 am (plainF r)).1)) (fun _ => by kernel_rfl) (yS (.bool ((atM 0 am (plainF r)).2)) (fun _ => by kernel_rfl) (Lq_as (Lq_as (xF ?_))))))))))))))))))
 intro w4 hB5
 replace hb := hb.trans (hB5.mono hs)
 replace hs := Nat.le_trans hs (hB5.size)
 refine zA (zX ?_)
 refine zO [.tmp 4, .tmp 5] [(.int .u8 ((atM 0 am (plainF r)).1)), (.bool ((atM 0 am (plainF r)).2))] rfl rfl ⟨by kernel_rfl, by kernel_rfl, trivial⟩ ?_
 have hE : (((atM 0 am (plainF r)).1 : Int) = (atM 0 am (plainF r)).1) ∧ ((atM 0 am (plainF r)).2 = (atM 0 am (plainF r)).2) := ⟨(by first | rfl | (simp_all; done) | omega), (by first | rfl | (simp_all; done) | omega)⟩
 exact ⟨xG (congrArg (Value.int .u8) hE.1) (congrArg Value.bool hE.2), hb⟩
theorem c_tLine (b_t : Nat) (b_nm : Nat) (b_ln : Nat) (v_mm : Value) (b_wh : Nat) (r : Int) (v_lm : Value) (lm : List (Int × Int × Int)) (w : World) (o_t : w.heap[b_t]? = some (.cells [(.pointer (some ⟨b_nm, 0, none⟩)), (.pointer (some ⟨b_ln, 0, none⟩)), v_mm, (.pointer (some ⟨b_wh, 0, none⟩))].toArray 66 (0, 0))) (o_ln : w.heap[b_ln]? = some (.cells [v_lm, (.bool true)].toArray 118 (0, 0))) (p_lm : Rd w encSpanI v_lm lm) (hr : RiseG 0 lm) :
  Calls Tryz.prog 14 #[(.pointer (some ⟨b_t, 0, none⟩)), (.int .i32 r)] w (Ret fun v w' => v = (.int .i64 ((atM 0 lm (plainF r)).1)) ∧ Below w.heap.size w w') := by
 refine K11 (enter (args := [(.pointer (some ⟨b_t, 0, none⟩)), (.int .i32 r)]) Tryz.func14 rfl (by kernel_rfl : _ = 20)) ?_
 have hb := Below.refl w.heap.size w
 have hs : w.heap.size ≤ w.heap.size := Nat.le_refl _
 refine zF (zD (zJ (zE (zA (zF (zF (zD (zI (K22 (yA 38 [(.pointer (some ⟨b_t, 0, none⟩))]) (c_tnone b_t b_nm b_ln v_mm b_wh _ o_t) ?_)))))))))
 rintro _ w1 ⟨rfl, hB2⟩
 replace hb := hb.trans (hB2.mono hs)
 replace hs := Nat.le_trans hs (hB2.size)
 replace o_t := zB o_t hB2
 replace o_ln := zB o_ln hB2
 replace p_lm := p_lm.below hB2
 refine zE (zA (K11 zN (zV (zA (zF (K21 W_quiet (yI (yS (.pointer (some ⟨b_t, 0, none⟩)) (fun _ => by kernel_rfl) (yS (.pointer (some ⟨b_t, 1, none⟩)) (fun _ => by kernel_rfl) (K13 (yY b_t 1 (.pointer (some ⟨b_ln, 0, none⟩))) (fun _ => by kernel_rfl) (zM o_t rfl) (yI (Lq_call 40 [(.int .i32 r)] (.int .i32 (plainF r)) (fun _ _ => by kernel_rfl) (fun wq hbq => c_plain r wq ) (Lq_call 41 [(.pointer (some ⟨b_ln, 0, none⟩)), (.int .i32 (plainF r))] (.tuple #[(.int .i64 ((atM 0 lm (plainF r)).1)), (.bool ((atM 0 lm (plainF r)).2))]) (fun _ _ => by kernel_rfl) (fun wq hbq => c_at_I b_ln v_lm lm (plainF r) wq (zB o_ln hbq) (p_lm.below hbq) (by exact hr)) (yI (yS (.int .i64 ((atM 0 lm (plainF r)).1)) (fun _ => by kernel_rfl) (yS (.bool ((atM 0 lm (plainF r)).2)) (fun _ => by kernel_rfl) (Lq_as (Lq_as (xF ?_)))))))))))))))))))
 intro w4 hB5
 replace hb := hb.trans (hB5.mono hs)
 replace hs := Nat.le_trans hs (hB5.size)
 refine zA (zF (zD (zI (zJ (zE (zA (zX ?_)))))))
 refine zO [.tmp 4] [(.int .i64 ((atM 0 lm (plainF r)).1))] rfl rfl ⟨by kernel_rfl, trivial⟩ ?_
 have e0 : ((atM 0 lm (plainF r)).1 : Int) = (atM 0 lm (plainF r)).1 := by first | rfl | (simp_all; done) | omega
 exact ⟨congrArg (Value.int .i64) e0, hb⟩
theorem c_clone_M (v_s : Value) (s : List (Int × Int × Int)) (w : World) (p_s : Rd w encSpanC v_s s) (hl : s.length ≤ 67108864) :
  Calls Tryz.prog 48 #[v_s] w (Ret fun v w' => ∃ (q0 : Value), v = q0 ∧ Row w' w.heap.size 45 3 encSpanC q0 s ∧ Below w.heap.size w w') := by
 refine K11 (enter (args := [v_s]) Tryz.func48 rfl (by kernel_rfl : _ = 8)) ?_
 have hb := Below.refl w.heap.size w
 have hs : w.heap.size ≤ w.heap.size := Nat.le_refl _
 refine zF (zD (zJ (zE (zA (zF (zF (zD (zI (K24 (L_snil v_s s p_s) (fun _ _ _ => by kernel_rfl) (fun _ _ _ _ => by kernel_rfl) ?_ ?_)))))))))
 ·intro h1
  refine zE (zA (K11 zS (zF (zD (zJ (zE (zA (zX (zH ?_)))))))))
  refine zO [.tmp 2] [(.slice none 0 0)] rfl rfl ⟨by kernel_rfl, trivial⟩ ?_
  have e51 : ([] : List (Int × Int × Int)) = s := by (subst s; rfl)
  exact ⟨(.slice none 0 0), rfl, (Row.nil _ _ _ _ _).cast e51, hb⟩
 ·refine zE (zA (K11 zN (zV (zA (zF (zD (K21 (yW (fun b => .slice (some ⟨b, 0, none⟩) 0 0) (.cells [].toArray 45 (0, 0))) ?_)))))))
  intro b2 w3 hN4
  have g_b2 : w.heap.size ≤ b2 := by rw [hN4.num]; exact hs
  replace hb := hb.trans (hN4.below.mono hs)
  replace hs := Nat.le_trans hs (hN4.below.size)
  replace p_s := p_s.below hN4.below
  have r_b2 : Row w3 w.heap.size 45 3 encSpanC (.slice (some ⟨b2, 0, none⟩) 0 0) ([] : List (Int × Int × Int)) := Row.made ([] : List (Int × Int × Int)) hN4 g_b2 rfl rfl (by first | decide | (simp; done))
  refine zI (K31 (L_appAll el42 w.heap.size (.slice (some ⟨b2, 0, none⟩) 0 0) v_s ([] : List (Int × Int × Int)) s hs r_b2 p_s (by (simp only [List.length_append, List.length_nil] <;> omega)) (fun _ => rfl) (fun _ => rfl)) ?_)
  intro v5 w6 hr7 hg8 how9 
  replace hb := hb.grown hg8 hs (fun k hk => (World.ownsRow.lt r_b2 k hk).1)
  replace hs := Nat.le_trans hs (hg8.size)
  replace r_b2 := hr7
  refine zJ (zE (zA (zX ?_)))
  refine zO [.tmp 2] [v5] rfl rfl ⟨by kernel_rfl, trivial⟩ ?_
  have e51 : (([] : List (Int × Int × Int)) ++ s) = s := by rfl
  exact ⟨v5, rfl, r_b2.cast e51, hb⟩
theorem c_tMissing (b_t : Nat) (b_nm : Nat) (b_ln : Nat) (v_mm : Value) (mm : List (Int × Int × Int)) (b_wh : Nat) (w : World) (o_t : w.heap[b_t]? = some (.cells [(.pointer (some ⟨b_nm, 0, none⟩)), (.pointer (some ⟨b_ln, 0, none⟩)), v_mm, (.pointer (some ⟨b_wh, 0, none⟩))].toArray 66 (0, 0))) (p_mm : Rd w encSpanC v_mm mm) (hl : mm.length ≤ 67108864) :
  Calls Tryz.prog 16 #[(.pointer (some ⟨b_t, 0, none⟩))] w (Ret fun v w' => ∃ (q0 : Value), v = q0 ∧ Row w' w.heap.size 45 3 encSpanC q0 mm ∧ Below w.heap.size w w') := by
 refine K11 (enter (args := [(.pointer (some ⟨b_t, 0, none⟩))]) Tryz.func16 rfl (by kernel_rfl : _ = 10)) ?_
 have hb := Below.refl w.heap.size w
 have hs : w.heap.size ≤ w.heap.size := Nat.le_refl _
 refine zF (zD (zJ (zE (zA (zF (zF (zD (zI (K22 (yA 38 [(.pointer (some ⟨b_t, 0, none⟩))]) (c_tnone b_t b_nm b_ln v_mm b_wh _ o_t) ?_)))))))))
 rintro _ w1 ⟨rfl, hB2⟩
 replace hb := hb.trans (hB2.mono hs)
 replace hs := Nat.le_trans hs (hB2.size)
 replace o_t := zB o_t hB2
 replace p_mm := p_mm.below hB2
 refine zE (zA (K11 zN (zV (zA (zF (zD (zI (K21 (zQ (.pointer (some ⟨b_t, 0, none⟩))) (K21 (zQ (.pointer (some ⟨b_t, 2, none⟩))) (K22 (zZ b_t 2 v_mm) (zM o_t rfl) (K22 (yA 48 [v_mm]) (c_clone_M v_mm mm _ p_mm (by omega)) ?_)))))))))))
 rintro q4 w5 ⟨_, rfl, r_q4, hB6⟩
 replace r_q4 := r_q4.base hs
 replace hb := hb.trans (hB6.mono hs)
 replace hs := Nat.le_trans hs (hB6.size)
 refine zJ (zE (zA (zX ?_)))
 refine zO [.tmp 2] [q4] rfl rfl ⟨by kernel_rfl, trivial⟩ ?_
 have e51 : mm = mm := by first | rfl | (simp_all; done) | omega
 exact ⟨q4, rfl, r_q4.cast e51, hb⟩
theorem it_Named (bx_t b_t : Nat) (b_nm : Nat) (b_ln : Nat) (v_mm : Value) (b_wh : Nat) (v_am : Value) (am : List (Int × Int × Int)) (hl : am.length ≤ 4194304) :
  Iter (α := SpI) Tryz.prog 70 [.pointer (some ⟨bx_t, 0, none⟩)] (fun x => [.agg #[.int .i32 x.1, .int .i32 x.2.1], .int .u8 x.2.2]) am (fun w => w.heap[bx_t]? = some (.cells [(.pointer (some ⟨b_t, 0, none⟩))].toArray 23 (0, 0)) ∧ w.heap[b_t]? = some (.cells [(.pointer (some ⟨b_nm, 0, none⟩)), (.pointer (some ⟨b_ln, 0, none⟩)), v_mm, (.pointer (some ⟨b_wh, 0, none⟩))].toArray 66 (0, 0)) ∧ w.heap[b_nm]? = some (.cells [v_am, (.bool true)].toArray 115 (0, 0)) ∧ Rd w encSpanC v_am am) := by
 intro l J Jx w hN h0 hJs hJxs hY
 refine K11 (enter (args := [(.func (.yield l) #[] #[]), (.pointer (some ⟨bx_t, 0, none⟩))]) Tryz.func70 rfl (by kernel_rfl : _ = 13)) ?_
 have hb := Below.refl w.heap.size w
 have hs : w.heap.size ≤ w.heap.size := Nat.le_refl _
 obtain ⟨o_capt, o_capg_t, o_capg_nm, p_am⟩ := hN
 refine zF (zD (K22 (zZ bx_t 0 (.pointer (some ⟨b_t, 0, none⟩))) (zM o_capt rfl) (K22 (yA 38 [(.pointer (some ⟨b_t, 0, none⟩))]) (c_tnone b_t b_nm b_ln v_mm b_wh _ o_capg_t) ?_)))
 rintro _ w1 ⟨rfl, hB2⟩
 replace hb := hb.trans (hB2.mono hs)
 replace hs := Nat.le_trans hs (hB2.size)
 replace o_capt := zB o_capt hB2
 replace o_capg_t := zB o_capg_t hB2
 replace o_capg_nm := zB o_capg_nm hB2
 replace p_am := p_am.below hB2
 refine K11 (L_not false) (zE (zA (K11 zS (zD (K22 (zZ bx_t 0 (.pointer (some ⟨b_t, 0, none⟩))) (zM o_capt rfl) (K21 (zQ (.pointer (some ⟨b_t, 0, none⟩))) (K21 (zQ (.pointer (some ⟨b_t, 0, none⟩))) (K22 (zZ b_t 0 (.pointer (some ⟨b_nm, 0, none⟩))) (zM o_capg_t rfl) (K22 (yA 35 [(.pointer (some ⟨b_nm, 0, none⟩))]) (c_all_C b_nm v_am am _ o_capg_nm p_am) ?_)))))))))
 rintro _ w4 ⟨cb7, rfl, o_cb7, g_cb7, hB5⟩
 replace g_cb7 := Nat.le_trans hs g_cb7
 replace hb := hb.trans (hB5.mono hs)
 replace hs := Nat.le_trans hs (hB5.size)
 replace o_capt := zB o_capt hB5
 replace o_capg_t := zB o_capg_t hB5
 replace o_capg_nm := zB o_capg_nm hB5
 replace p_am := p_am.below hB5
 refine zI ?_
 have ltc_capt := yR o_capt
 have ltc_capg_t := yR o_capg_t
 have ltc_capg_nm := yR o_capg_nm
 refine K22 (yA 68 [(.func (.yield l) #[] #[]), (.pointer (some ⟨cb7, 0, none⟩))]) (iter_tail (N := fun w => w.heap[bx_t]? = some (.cells [(.pointer (some ⟨b_t, 0, none⟩))].toArray 23 (0, 0)) ∧ w.heap[b_t]? = some (.cells [(.pointer (some ⟨b_nm, 0, none⟩)), (.pointer (some ⟨b_ln, 0, none⟩)), v_mm, (.pointer (some ⟨b_wh, 0, none⟩))].toArray 66 (0, 0)) ∧ w.heap[b_nm]? = some (.cells [v_am, (.bool true)].toArray 115 (0, 0)) ∧ Rd w encSpanC v_am am) (it_all_C cb7 b_nm v_am am (by omega)) ⟨o_cb7, o_capg_nm, p_am⟩ hs (fun A hA => h0 A (hb.trans (hA.mono hs))) hJs hJxs (fun A hA => ⟨zB o_capt hA, zB o_capg_t hA, zB o_capg_nm hA, p_am.below hA⟩) (fun K A B h hc => ⟨yG h.1 hc (fun hi => Nat.not_lt.2 hi.1 ltc_capt), yG h.2.1 hc (fun hi => Nat.not_lt.2 hi.1 ltc_capg_t), yG h.2.2.1 hc (fun hi => Nat.not_lt.2 hi.1 ltc_capg_nm), Rd.ch p_am (Nat.le_refl _) h.2.2.2 hc (fun k h => h.1)⟩) (fun K A B hK h1 hn hk => ⟨(hk.same _ ⟨g_cb7, Nat.lt_of_lt_of_le (yR o_cb7) hK⟩).trans h1.1, hn.2.2.1, hn.2.2.2⟩) hY) ?_
 rintro v9 w8 ⟨hsz, hres⟩
 refine zE ?_
 refine end_normal [] [] rfl rfl trivial ?_
 exact ⟨Nat.le_trans hs hsz, hres⟩
theorem c_tNamed (b_t : Nat) (b_nm : Nat) (b_ln : Nat) (v_mm : Value) (b_wh : Nat) (w : World) (o_t : w.heap[b_t]? = some (.cells [(.pointer (some ⟨b_nm, 0, none⟩)), (.pointer (some ⟨b_ln, 0, none⟩)), v_mm, (.pointer (some ⟨b_wh, 0, none⟩))].toArray 66 (0, 0))) :
  Calls Tryz.prog 36 #[(.pointer (some ⟨b_t, 0, none⟩))] w (Ret fun v w' => ∃ (cb0 : Nat), v = (.func (.func 70) #[] #[(.pointer (some ⟨cb0, 0, none⟩))]) ∧ w'.heap[cb0]? = some (.cells [(.pointer (some ⟨b_t, 0, none⟩))].toArray 23 (0, 0)) ∧ w.heap.size ≤ cb0 ∧ Below w.heap.size w w') := by
 refine K11 (enter (args := [(.pointer (some ⟨b_t, 0, none⟩))]) Tryz.func36 rfl (by kernel_rfl : _ = 4)) ?_
 have hb := Below.refl w.heap.size w
 have hs : w.heap.size ≤ w.heap.size := Nat.le_refl _
 refine zF (zD (K21 (yW (fun b => .pointer (some ⟨b, 0, none⟩)) (.cells [(.pointer (some ⟨b_t, 0, none⟩))].toArray 23 (0, 0))) ?_))
 intro b1 w2 hN3
 have g_x1 : w.heap.size ≤ b1 := by rw [hN3.num]; exact hs
 replace hb := hb.trans (hN3.below.mono hs)
 replace hs := Nat.le_trans hs (hN3.below.size)
 have o_x1 := hN3.here
 refine zJ (zE (zA (zF (zD (K21 (zQ (.func (.func 70) #[] #[(.pointer (some ⟨b1, 0, none⟩))])) (zJ (zE (zA (zX ?_)))))))))
 refine zO [.tmp 2] [(.func (.func 70) #[] #[(.pointer (some ⟨b1, 0, none⟩))])] rfl rfl ⟨by kernel_rfl, trivial⟩ ?_
 exact ⟨b1, rfl, o_x1, g_x1, hb⟩
theorem it_Whole (bx_t b_t : Nat) (b_nm : Nat) (b_ln : Nat) (v_mm : Value) (b_wh : Nat) (v_wh : Value) (wh : List (Int × Int × Int)) (hl : wh.length ≤ 4194304) :
  Iter (α := SpI) Tryz.prog 71 [.pointer (some ⟨bx_t, 0, none⟩)] (fun x => [.agg #[.int .i32 x.1, .int .i32 x.2.1], .int .u8 x.2.2]) wh (fun w => w.heap[bx_t]? = some (.cells [(.pointer (some ⟨b_t, 0, none⟩))].toArray 23 (0, 0)) ∧ w.heap[b_t]? = some (.cells [(.pointer (some ⟨b_nm, 0, none⟩)), (.pointer (some ⟨b_ln, 0, none⟩)), v_mm, (.pointer (some ⟨b_wh, 0, none⟩))].toArray 66 (0, 0)) ∧ w.heap[b_wh]? = some (.cells [v_wh, (.bool true)].toArray 115 (0, 0)) ∧ Rd w encSpanC v_wh wh) := by
 intro l J Jx w hN h0 hJs hJxs hY
 refine K11 (enter (args := [(.func (.yield l) #[] #[]), (.pointer (some ⟨bx_t, 0, none⟩))]) Tryz.func71 rfl (by kernel_rfl : _ = 13)) ?_
 have hb := Below.refl w.heap.size w
 have hs : w.heap.size ≤ w.heap.size := Nat.le_refl _
 obtain ⟨o_capt, o_capg_t, o_capg_wh, p_wh⟩ := hN
 refine zF (zD (K22 (zZ bx_t 0 (.pointer (some ⟨b_t, 0, none⟩))) (zM o_capt rfl) (K22 (yA 38 [(.pointer (some ⟨b_t, 0, none⟩))]) (c_tnone b_t b_nm b_ln v_mm b_wh _ o_capg_t) ?_)))
 rintro _ w1 ⟨rfl, hB2⟩
 replace hb := hb.trans (hB2.mono hs)
 replace hs := Nat.le_trans hs (hB2.size)
 replace o_capt := zB o_capt hB2
 replace o_capg_t := zB o_capg_t hB2
 replace o_capg_wh := zB o_capg_wh hB2
 replace p_wh := p_wh.below hB2
 refine K11 (L_not false) (zE (zA (K11 zS (zD (K22 (zZ bx_t 0 (.pointer (some ⟨b_t, 0, none⟩))) (zM o_capt rfl) (K21 (zQ (.pointer (some ⟨b_t, 0, none⟩))) (K21 (zQ (.pointer (some ⟨b_t, 3, none⟩))) (K22 (zZ b_t 3 (.pointer (some ⟨b_wh, 0, none⟩))) (zM o_capg_t rfl) (K22 (yA 35 [(.pointer (some ⟨b_wh, 0, none⟩))]) (c_all_C b_wh v_wh wh _ o_capg_wh p_wh) ?_)))))))))
 rintro _ w4 ⟨cb7, rfl, o_cb7, g_cb7, hB5⟩
 replace g_cb7 := Nat.le_trans hs g_cb7
 replace hb := hb.trans (hB5.mono hs)
 replace hs := Nat.le_trans hs (hB5.size)
 replace o_capt := zB o_capt hB5
 replace o_capg_t := zB o_capg_t hB5
 replace o_capg_wh := zB o_capg_wh hB5
 replace p_wh := p_wh.below hB5
 refine zI ?_
 have ltc_capt := yR o_capt
 have ltc_capg_t := yR o_capg_t
 have ltc_capg_wh := yR o_capg_wh
 refine K22 (yA 68 [(.func (.yield l) #[] #[]), (.pointer (some ⟨cb7, 0, none⟩))]) (iter_tail (N := fun w => w.heap[bx_t]? = some (.cells [(.pointer (some ⟨b_t, 0, none⟩))].toArray 23 (0, 0)) ∧ w.heap[b_t]? = some (.cells [(.pointer (some ⟨b_nm, 0, none⟩)), (.pointer (some ⟨b_ln, 0, none⟩)), v_mm, (.pointer (some ⟨b_wh, 0, none⟩))].toArray 66 (0, 0)) ∧ w.heap[b_wh]? = some (.cells [v_wh, (.bool true)].toArray 115 (0, 0)) ∧ Rd w encSpanC v_wh wh) (it_all_C cb7 b_wh v_wh wh (by omega)) ⟨o_cb7, o_capg_wh, p_wh⟩ hs (fun A hA => h0 A (hb.trans (hA.mono hs))) hJs hJxs (fun A hA => ⟨zB o_capt hA, zB o_capg_t hA, zB o_capg_wh hA, p_wh.below hA⟩) (fun K A B h hc => ⟨yG h.1 hc (fun hi => Nat.not_lt.2 hi.1 ltc_capt), yG h.2.1 hc (fun hi => Nat.not_lt.2 hi.1 ltc_capg_t), yG h.2.2.1 hc (fun hi => Nat.not_lt.2 hi.1 ltc_capg_wh), Rd.ch p_wh (Nat.le_refl _) h.2.2.2 hc (fun k h => h.1)⟩) (fun K A B hK h1 hn hk => ⟨(hk.same _ ⟨g_cb7, Nat.lt_of_lt_of_le (yR o_cb7) hK⟩).trans h1.1, hn.2.2.1, hn.2.2.2⟩) hY) ?_
 rintro v9 w8 ⟨hsz, hres⟩
 refine zE ?_
 refine end_normal [] [] rfl rfl trivial ?_
 exact ⟨Nat.le_trans hs hsz, hres⟩
theorem c_tWhole (b_t : Nat) (b_nm : Nat) (b_ln : Nat) (v_mm : Value) (b_wh : Nat) (w : World) (o_t : w.heap[b_t]? = some (.cells [(.pointer (some ⟨b_nm, 0, none⟩)), (.pointer (some ⟨b_ln, 0, none⟩)), v_mm, (.pointer (some ⟨b_wh, 0, none⟩))].toArray 66 (0, 0))) :
  Calls Tryz.prog 37 #[(.pointer (some ⟨b_t, 0, none⟩))] w (Ret fun v w' => ∃ (cb0 : Nat), v = (.func (.func 71) #[] #[(.pointer (some ⟨cb0, 0, none⟩))]) ∧ w'.heap[cb0]? = some (.cells [(.pointer (some ⟨b_t, 0, none⟩))].toArray 23 (0, 0)) ∧ w.heap.size ≤ cb0 ∧ Below w.heap.size w w') := by
 refine K11 (enter (args := [(.pointer (some ⟨b_t, 0, none⟩))]) Tryz.func37 rfl (by kernel_rfl : _ = 4)) ?_
 have hb := Below.refl w.heap.size w
 have hs : w.heap.size ≤ w.heap.size := Nat.le_refl _
 refine zF (zD (K21 (yW (fun b => .pointer (some ⟨b, 0, none⟩)) (.cells [(.pointer (some ⟨b_t, 0, none⟩))].toArray 23 (0, 0))) ?_))
 intro b1 w2 hN3
 have g_x1 : w.heap.size ≤ b1 := by rw [hN3.num]; exact hs
 replace hb := hb.trans (hN3.below.mono hs)
 replace hs := Nat.le_trans hs (hN3.below.size)
 have o_x1 := hN3.here
 refine zJ (zE (zA (zF (zD (K21 (zQ (.func (.func 71) #[] #[(.pointer (some ⟨b1, 0, none⟩))])) (zJ (zE (zA (zX ?_)))))))))
 refine zO [.tmp 2] [(.func (.func 71) #[] #[(.pointer (some ⟨b1, 0, none⟩))])] rfl rfl ⟨by kernel_rfl, trivial⟩ ?_
 exact ⟨b1, rfl, o_x1, g_x1, hb⟩
end Go.Proofs.YtkclikfejmeblaaGreatDoor
end

/- === Wmbl2 === -/
section
/- Walks, written by my program walk.py out of the specification mbl2.py: each theorem says what one function returns and that it leaves memory as it was. -/
namespace Go.Proofs.YtkclikfejmeblaaGreatDoor
open Go Go.RowKit Go.FK
set_option maxHeartbeats 4000000
set_option maxRecDepth 100000
set_option linter.unusedVariables false
set_option linter.unusedSimpArgs false
theorem bl_copy0 (b : Nat) (v : Value) (w : World) (ho : w.heap[b]? = some (.cells [(.pointer none), v].toArray 86 (0, 0))) :
  Calls Tryz.prog 75 #[(.pointer (some ⟨b, 0, none⟩))] w (Ret fun v1 w1 => v1 = (.tuple #[]) ∧ Wrote w w1 b (.cells [(.pointer (some ⟨b, 0, none⟩)), v].toArray 86 (0, 0))) := by
 refine K11 (enter (args := [(.pointer (some ⟨b, 0, none⟩))]) Tryz.func75 rfl (by kernel_rfl : _ = 20)) ?_
 have hb := Below.refl w.heap.size w
 have hs : w.heap.size ≤ w.heap.size := Nat.le_refl _
 refine zF (zD (zI (K21 (zQ (.pointer (some ⟨b, 0, none⟩))) (K21 (zQ (.pointer (some ⟨b, 0, none⟩))) (K22 (zZ b 0 (.pointer none)) (zM ho rfl) (K21 (zQ (.bool true)) (zE (zA (K11 zS (zD (zI (zI (K21 (L_toUns (k := 2) b Tryz.underlying83 Tryz.underlying145 (by kernel_rfl) (by kernel_rfl) ho) (K21 (zQ (.pointer (some ⟨b, 0, none⟩))) (K21 (L_fromUns (k := 2) b Tryz.underlying145 Tryz.underlying83 (by kernel_rfl) ho) (K21 (zQ (.pointer (some ⟨b, 0, none⟩))) (K21 (zQ (.pointer (some ⟨b, 0, none⟩))) (K26 (xC b 0 (.pointer (some ⟨b, 0, none⟩)) [(.pointer none), v] [(.pointer (some ⟨b, 0, none⟩)), v] 86) rfl (by kernel_rfl) ho (by simp) rfl ?_))))))))))))))))))
 intro w1 hW2
 replace hs := Nat.le_trans hs (Nat.le_of_eq hW2.size.symm)
 replace ho := hW2.here
 refine zE ?_
 refine end_normal [] [] rfl rfl trivial ?_
 exact ⟨rfl, hW2⟩
theorem bl_copy1 (b : Nat) (v : Value) (w : World) (ho : w.heap[b]? = some (.cells [(.pointer (some ⟨b, 0, none⟩)), v].toArray 86 (0, 0))) :
  Calls Tryz.prog 75 #[(.pointer (some ⟨b, 0, none⟩))] w (Ret fun v1 w1 => v1 = (.tuple #[]) ∧ w1 = w) := by
 refine K11 (enter (args := [(.pointer (some ⟨b, 0, none⟩))]) Tryz.func75 rfl (by kernel_rfl : _ = 20)) ?_
 have hb := Below.refl w.heap.size w
 have hs : w.heap.size ≤ w.heap.size := Nat.le_refl _
 refine zF (zD (zI (K21 (zQ (.pointer (some ⟨b, 0, none⟩))) (K21 (zQ (.pointer (some ⟨b, 0, none⟩))) (K22 (zZ b 0 (.pointer (some ⟨b, 0, none⟩))) (zM ho rfl) (K21 (zQ (.bool false)) (zE (zA (K11 zN (zF (zD (zI (K21 (zQ (.pointer (some ⟨b, 0, none⟩))) (K21 (zQ (.pointer (some ⟨b, 0, none⟩))) (K22 (zZ b 0 (.pointer (some ⟨b, 0, none⟩))) (zM ho rfl) (zI (K41 (L_pneF (k := 2) b Tryz.underlying83) (zE (zA (K11 zN (zV ?_)))))))))))))))))))))
 refine end_normal [] [] rfl rfl trivial ?_
 exact ⟨rfl, rfl⟩
theorem bl_copy (b : Nat) (p v : Value) (w : World) (hp : p = .pointer none ∨ p = (.pointer (some ⟨b, 0, none⟩))) (ho : w.heap[b]? = some (.cells [p, v].toArray 86 (0, 0))) :
  Calls Tryz.prog 75 #[(.pointer (some ⟨b, 0, none⟩))] w (Ret fun v1 w1 => v1 = (.tuple #[]) ∧ ((w1 = w ∧ p = (.pointer (some ⟨b, 0, none⟩))) ∨ Wrote w w1 b (.cells [(.pointer (some ⟨b, 0, none⟩)), v].toArray 86 (0, 0)))) := by
 rcases hp with rfl | rfl
 ·refine (bl_copy0 b v w ho).mono ?_
  rintro e w1 ⟨u, rfl, rfl, h⟩
  exact ⟨_, rfl, rfl, .inr h⟩
 ·refine (bl_copy1 b v w ho).mono ?_
  rintro e w1 ⟨u, rfl, rfl, h⟩
  exact ⟨_, rfl, rfl, .inl ⟨h, rfl⟩⟩
theorem bd_WriteString (b_b : Nat) (p : Value) (v_l : Value) (l : List (UInt8)) (x : List UInt8) (B_ : Nat) (w : World) (hs0 : B_ ≤ w.heap.size) (o_b : w.heap[b_b]? = some (.cells [p, v_l].toArray 86 (0, 0))) (g_b : B_ ≤ b_b) (p_l : Row w B_ 5 1 encByt v_l l) (hp : p = .pointer none ∨ p = .pointer (some ⟨b_b, 0, none⟩)) (hl : l.length ≤ 1073741824) (hx : x.length ≤ 1073741824) :
  Calls Tryz.prog 44 #[(.pointer (some ⟨b_b, 0, none⟩)), (S x)] w (Ret fun v w' => ∃ q0 : Value, v = (.tuple #[(.int .i64 ((x.length : Nat) : Int)), .nilIface]) ∧ w'.heap[b_b]? = some (.cells [(.pointer (some ⟨b_b, 0, none⟩)), q0].toArray 86 (0, 0)) ∧ Row w' B_ 5 1 encByt q0 (l ++ x) ∧ (∀ g, Value.ownBlock q0 = some g → w.heap.size ≤ g ∨ (Dm b_b v_l) g) ∧ Ch (Dm b_b v_l) w w') := by
 refine K11 (enter (args := [(.pointer (some ⟨b_b, 0, none⟩)), (S x)]) Tryz.func44 rfl (by kernel_rfl : _ = 19)) ?_
 have hb := Below.refl B_ w
 have hs : B_ ≤ (World.heap w).size := hs0
 have hc := Ch.refl (Dm b_b v_l) w
 have dk_b : (World.heap w).size ≤ b_b ∨ (Dm b_b v_l) b_b := .inr (.inl rfl)
 have dr_p_l : ∀ g, Value.ownBlock v_l = some g → (World.heap w).size ≤ g ∨ (Dm b_b v_l) g := fun g h => .inr (.inr h)
 refine zF (zD (zJ (zJ (zE (zA (zF (zD (zI (K22 (yA 75 [(.pointer (some ⟨b_b, 0, none⟩))]) (bl_copy b_b p v_l _ hp o_b) ?_)))))))))
 rintro _ w1 ⟨rfl, hcc⟩
 have hz := copy2 hcc o_b; obtain ⟨ho1, hC1⟩ := hz
 replace hb := hC1.below hb hs (fun k e => e ▸ g_b)
 replace hc := hc.trans2 hC1 (fun k e => e ▸ dk_b)
 replace p_l := p_l.ch hC1 (fun g hg e => (p_l.ne o_b (by simp)) (by rw [hg, e]))
 replace hs := Nat.le_trans hs hC1.size
 replace o_b := ho1
 refine zE (zA (zF (zD (zI (zI (K21 (zQ (.pointer (some ⟨b_b, 0, none⟩))) (K21 (zQ (.pointer (some ⟨b_b, 1, none⟩))) (K22 (zZ b_b 1 v_l) (zM o_b rfl) (zI (K21 (L_appStrR (l := l) x Tryz.underlying84 Tryz.underlying9 (by kernel_rfl) p_l (by omega) (by omega) hs) ?_))))))))))
 intro v2 w3 hr4 hg5 how6 
 have dr2 := dr_app (D := (Dm b_b v_l)) how6 (by have h0 := hc.size; omega : (World.heap w).size ≤ (World.heap w1).size) dr_p_l
 replace hb := hb.grown hg5 hs (fun k hk => (World.ownsRow.lt p_l k hk).1)
 replace hc := hc.trans2 (Ch.of_grown hg5) (fun k e => dr_p_l k e)
 replace hs := Nat.le_trans hs (hg5.size)
 replace o_b := yF o_b hg5 (p_l.ne o_b (by simp))
 replace p_l := hr4
 have dr_p_l := dr2; clear dr2
 refine K21 (zQ (.pointer (some ⟨b_b, 0, none⟩))) (K21 (zQ (.pointer (some ⟨b_b, 1, none⟩))) (K26 (xC b_b 1 v2 [(.pointer (some ⟨b_b, 0, none⟩)), v_l] [(.pointer (some ⟨b_b, 0, none⟩)), v2] 86) p_l.one (by kernel_rfl) o_b (by simp) rfl ?_))
 intro w7 hW8
 replace hb := hb.trans (hW8.below g_b)
 replace hc := hc.trans2 (Ch.of_wrote hW8) (fun k e => e ▸ dk_b)
 replace hs := Nat.le_trans hs (Nat.le_of_eq hW8.size.symm)
 replace p_l := p_l.wrote hW8 (p_l.ne o_b (by simp))
 replace o_b := hW8.here
 refine zE (zA (zF (zD (zI (K11 (L_slen 9 x rfl Tryz.underlying9) (zJ (zJ (zE (zA (zX ?_))))))))))
 refine zO [.tmp 4, .tmp 5] [(.int .i64 (((x).length : Nat) : Int)), .nilIface] rfl rfl ⟨by kernel_rfl, by kernel_rfl, trivial⟩ ?_
 have hE : ((x).length = x.length) ∧ ((l ++ x) = (l ++ x)) := ⟨(by rfl), (by rfl)⟩
 exact ⟨_, xG (congrArg (fun x : Nat => Value.int .i64 (x : Int)) hE.1) (rfl), o_b, p_l.cast hE.2, dr_p_l, hc⟩
end Go.Proofs.YtkclikfejmeblaaGreatDoor
end
