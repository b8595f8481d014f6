/- Joined by my program pack.py out of my own texts: Wctb3 Wclaw Wcbak. -/
import Derived.Test.YtkclikfejmeblaaGreatDoorProg
import Derived.Tactics2
import Derived.Test.YtkclikfejmeblaaGreatDoorQ2
import Derived.Test.YtkclikfejmeblaaGreatDoorQ3
import Derived.Test.YtkclikfejmeblaaGreatDoorQ4
import Derived.Test.YtkclikfejmeblaaGreatDoorQ5
import Derived.Test.YtkclikfejmeblaaGreatDoorQ6
set_option linter.unusedVariables false
set_option linter.unusedSimpArgs false
/- === Wctb3 === -/
section
/- Walks, written by my program walk.py out of the specification ctb3.py: each theorem says what one function returns and that it leaves memory as it was. -/
namespace Go.Proofs.YtkclikfejmeblaaGreatDoor
open Go Go.RowKit Go.FK
set_option maxHeartbeats 4000000
set_option maxRecDepth 100000
set_option linter.unusedVariables false
set_option linter.unusedSimpArgs false
theorem eqin32_34 (d : Nat) (a0 : Int) (a1 : Int) (c0 : Int) (c1 : Int) (w : World) : (Op.equalIn (d + 2) 32 (.agg #[.int .i32 a0, .int .i32 a1]) (.agg #[.int .i32 c0, .int .i32 c1])).run Tryz.prog w = .ok (a0 == c0 && a1 == c1) w := by
 have hS : Tryz.prog.underlying 32 = some (.struct (Tryz.prog.fieldsOf 32)) := by kernel_rfl
 have hp : Tryz.prog.stoodInHeld 32 = false := by kernel_rfl
 rw [run_equalIn_agg w (d + 1) 32 _ _ hS hp]
 simp only [Program.fieldsOf, Tryz.underlying32]
 have isAgg21 := Tryz.isAgg21
 have sizeOf21 := Tryz.sizeOf21
 have underlying21 := Tryz.underlying21
 go_simp
 by_cases h0 : a0 = c0 <;> by_cases h1 : a1 = c1 <;> simp [h0, h1]
theorem eqagg34 (a0 : Int) (a1 : Int) (a2 : Int) (c0 : Int) (c1 : Int) (c2 : Int) (w : World) : (Op.equalIn 10000 34 (.agg #[.int .i32 a0, .int .i32 a1, .int .u8 a2]) (.agg #[.int .i32 c0, .int .i32 c1, .int .u8 c2])).run Tryz.prog w = .ok (a0 == c0 && a1 == c1 && a2 == c2) w := by
 have hS : Tryz.prog.underlying 34 = some (.struct (Tryz.prog.fieldsOf 34)) := by kernel_rfl
 have hp : Tryz.prog.stoodInHeld 34 = false := by kernel_rfl
 have hh32 : ∀ w, (Op.equalIn 9999 32 (.agg #[.int .i32 a0, .int .i32 a1]) (.agg #[.int .i32 c0, .int .i32 c1])).run Tryz.prog w = .ok (a0 == c0 && a1 == c1) w := fun w => eqin32_34 9997 a0 a1 c0 c1 w
 have hh28 : ∀ w a b, (Op.equalIn 9999 28 (.int .u8 a) (.int .u8 b)).run Tryz.prog w = .ok (a == b) w := fun w a b => run_equalIn_int w 9998 28 .u8 .u8 a b Tryz.underlying28
 rw [show (10000 : Nat) = 9999 + 1 from rfl, run_equalIn_agg w 9999 34 _ _ hS hp]
 simp only [Program.fieldsOf, Tryz.underlying34]
 have isAgg28 := Tryz.isAgg28
 have sizeOf28 := Tryz.sizeOf28
 have isAgg32 := Tryz.isAgg32
 have sizeOf32 := Tryz.sizeOf32
 simp [Op.eqFields, part, Sem.run_bind, Sem.run_ite, Result.andThen_ok, isAgg28, sizeOf28, hh28, isAgg32, sizeOf32, hh32]
 by_cases h0 : a0 = c0 <;> by_cases h1 : a1 = c1 <;> by_cases h2 : a2 = c2 <;> simp [h0, h1, h2]
theorem eqagg45 (a0 : Int) (a1 : Int) (a2 : Int) (c0 : Int) (c1 : Int) (c2 : Int) (w : World) : (Op.equalIn 10000 45 (.agg #[.int .i32 a0, .int .i32 a1, .int .u8 a2]) (.agg #[.int .i32 c0, .int .i32 c1, .int .u8 c2])).run Tryz.prog w = .ok (a0 == c0 && a1 == c1 && a2 == c2) w := by
 have hS : Tryz.prog.underlying 45 = some (.struct (Tryz.prog.fieldsOf 45)) := by kernel_rfl
 have hp : Tryz.prog.stoodInHeld 45 = false := by kernel_rfl
 have hh32 : ∀ w, (Op.equalIn 9999 32 (.agg #[.int .i32 a0, .int .i32 a1]) (.agg #[.int .i32 c0, .int .i32 c1])).run Tryz.prog w = .ok (a0 == c0 && a1 == c1) w := fun w => eqin32_34 9997 a0 a1 c0 c1 w
 have hh28 : ∀ w a b, (Op.equalIn 9999 28 (.int .u8 a) (.int .u8 b)).run Tryz.prog w = .ok (a == b) w := fun w a b => run_equalIn_int w 9998 28 .u8 .u8 a b Tryz.underlying28
 rw [show (10000 : Nat) = 9999 + 1 from rfl, run_equalIn_agg w 9999 45 _ _ hS hp]
 simp only [Program.fieldsOf, Tryz.underlying45]
 have isAgg28 := Tryz.isAgg28
 have sizeOf28 := Tryz.sizeOf28
 have isAgg32 := Tryz.isAgg32
 have sizeOf32 := Tryz.sizeOf32
 simp [Op.eqFields, part, Sem.run_bind, Sem.run_ite, Result.andThen_ok, isAgg28, sizeOf28, hh28, isAgg32, sizeOf32, hh32]
 by_cases h0 : a0 = c0 <;> by_cases h1 : a1 = c1 <;> by_cases h2 : a2 = c2 <;> simp [h0, h1, h2]
theorem c_tWrite (b_t : Nat) (b_nm : Nat) (b_ln : Nat) (v_mm : Value) (mm : List (Int × Int × Int)) (b_wh : Nat) (v_am : Value) (am : List (Int × Int × Int)) (w : World) (o_t : w.heap[b_t]? = some (.cells [(.pointer (some ⟨b_nm, 0, none⟩)), (.pointer (some ⟨b_ln, 0, none⟩)), v_mm, (.pointer (some ⟨b_wh, 0, none⟩))].toArray 66 (0, 0))) (p_mm : Rd w encSpanC v_mm mm) (o_nm : w.heap[b_nm]? = some (.cells [v_am, (.bool true)].toArray 115 (0, 0))) (p_am : Rd w encSpanC v_am am) (hcm : clsB mm) (hca : clsB am) (hm : mm.length ≤ 1048576) (ha : am.length ≤ 1114112) :
  Calls Tryz.prog 15 #[(.pointer (some ⟨b_t, 0, none⟩))] w (Ret fun v w' => v = (S (writeC mm am)) ∧ Below w.heap.size w w') := by
 refine K11 (enterM (args := [(.pointer (some ⟨b_t, 0, none⟩))]) Tryz.func15 rfl (by kernel_rfl : _ = 40)) ?_
 have hb := Below.refl w.heap.size w
 have hs : w.heap.size ≤ w.heap.size := Nat.le_refl _
 have in_p_mm := p_mm
 have in_p_am := p_am
 refine zF (zD (zJ (zE (zA (zF (zF (zD (zI (K22 (yA 38 [(.pointer (some ⟨b_t, 0, none⟩))]) (c_tnone b_t b_nm b_ln v_mm b_wh _ o_t) ?_)))))))))
 rintro _ w1 ⟨rfl, hB2⟩
 replace hb := hb.trans (hB2.mono hs)
 replace hs := Nat.le_trans hs (hB2.size)
 replace o_t := zB o_t hB2
 replace o_nm := zB o_nm hB2
 replace p_mm := p_mm.below hB2
 replace p_am := p_am.below hB2
 refine zE (zA (K11 zN (zV (zA (zF (zD (K21 (yW (fun b => .pointer (some ⟨b, 0, none⟩)) (.cells [(.pointer none), (.slice none 0 0)].toArray 86 (0, 0))) ?_)))))))
 intro b4 w5 hN6
 have g_x3 : w.heap.size ≤ b4 := by rw [hN6.num]; exact hs
 replace hb := hb.trans (hN6.below.mono hs)
 replace hs := Nat.le_trans hs (hN6.below.size)
 replace o_t := zB o_t hN6.below
 replace o_nm := zB o_nm hN6.below
 replace p_mm := p_mm.below hN6.below
 replace p_am := p_am.below hN6.below
 have o_x3 := hN6.here
 refine zE (zA (zF (zD (K21 (zQ (.func (.func 42) #[] #[(.pointer (some ⟨b4, 0, none⟩))])) (K21 (yW (fun b => .pointer (some ⟨b, 0, none⟩)) (.cells [.nilFunc].toArray 92 (0, 0))) ?_)))))
 intro b7 w8 hN9
 have g_x4 : w.heap.size ≤ b7 := by rw [hN9.num]; exact hs
 replace hb := hb.trans (hN9.below.mono hs)
 replace hs := Nat.le_trans hs (hN9.below.size)
 replace o_t := zB o_t hN9.below
 replace o_nm := zB o_nm hN9.below
 replace o_x3 := zB o_x3 hN9.below
 replace p_mm := p_mm.below hN9.below
 replace p_am := p_am.below hN9.below
 have o_x4 := hN9.here
 refine K26 (xC b7 0 (.func (.func 42) #[] #[(.pointer (some ⟨b4, 0, none⟩))]) [.nilFunc] [(.func (.func 42) #[] #[(.pointer (some ⟨b4, 0, none⟩))])] 92) rfl (by kernel_rfl) o_x4 (by simp) rfl ?_
 intro w10 hW11
 replace hb := hb.trans (hW11.below g_x4)
 replace hs := Nat.le_trans hs (Nat.le_of_eq hW11.size.symm)
 replace o_t := zL o_t hW11 (zT o_t o_x4 (by simp))
 replace o_nm := zL o_nm hW11 (zT o_nm o_x4 (by simp))
 replace o_x3 := zL o_x3 hW11 (zT o_x3 o_x4 (by simp))
 replace p_mm := in_p_mm.below hb
 replace p_am := in_p_am.below hb
 replace o_x4 := hW11.here
 refine zE (zA (zF (zF (zD (zI (K21 (zQ (.pointer (some ⟨b_t, 0, none⟩))) (K21 (zQ (.pointer (some ⟨b_t, 2, none⟩))) (K22 (zZ b_t 2 v_mm) (zM o_t rfl) (K11 (L_len 42 45 (mm).length v_mm rfl Tryz.underlying42 (p_mm).len) (zI (zE (zA (yP ?_)))))))))))))
 refine W_loop (fun m s0 w0 => ∃ (i : Nat) (acc : List UInt8) (pp : Value) (v_x3_1 : Value), (m = mm.length - i) ∧ (s0.ds = []) ∧ (s0.f 0 = (.pointer (some ⟨b_t, 0, none⟩))) ∧ (s0.f 2 = (S ([] : List UInt8))) ∧ (s0.f 3 = (.pointer (some ⟨b4, 0, none⟩))) ∧ (s0.f 4 = (.pointer (some ⟨b7, 0, none⟩))) ∧ (s0.f 15 = v_mm) ∧ (s0.f 16 = (.int .i64 (((mm).length : Nat) : Int))) ∧ (s0.f 17 = (.int .i64 ((i : Nat) : Int))) ∧ (Rd w0 encSpanC v_mm mm) ∧ (Rd w0 encSpanC v_am am) ∧ (Row w0 w.heap.size 5 1 encByt v_x3_1 acc) ∧ (w0.heap[b_t]? = some (.cells [(.pointer (some ⟨b_nm, 0, none⟩)), (.pointer (some ⟨b_ln, 0, none⟩)), v_mm, (.pointer (some ⟨b_wh, 0, none⟩))].toArray 66 (0, 0))) ∧ (w0.heap[b_nm]? = some (.cells [v_am, (.bool true)].toArray 115 (0, 0))) ∧ (w0.heap[b4]? = some (.cells [pp, v_x3_1].toArray 86 (0, 0))) ∧ (w0.heap[b7]? = some (.cells [(.func (.func 42) #[] #[(.pointer (some ⟨b4, 0, none⟩))])].toArray 92 (0, 0))) ∧ (Below w.heap.size w w0) ∧ (w.heap.size ≤ w0.heap.size) ∧ (i ≤ mm.length) ∧ (pp = .pointer none ∨ pp = .pointer (some ⟨b4, 0, none⟩)) ∧ (acc = (mm.take i).flatMap mlC)) _ ⟨0, [], (.pointer none), (.slice none 0 0), rfl, by kernel_rfl, by kernel_rfl, by kernel_rfl, by kernel_rfl, by kernel_rfl, by kernel_rfl, by kernel_rfl, by kernel_rfl, p_mm, p_am, Row.nil _ _ _ _ _, o_t, o_nm, o_x3, o_x4, hb, hs, (Nat.zero_le _), (.inl rfl), rfl⟩ ?_
 rintro m12 s13 w14 ⟨i, acc, pp, v_x3_1, hm, hds, f_0, f_2, f_3, f_4, f_15, f_16, f_17, p_mm, p_am, r_x3_1, o_t, o_nm, o_x3, o_x4, hb, hs, i1, ip, ia⟩
 refine yK 0 _ f_0 (yK 2 _ f_2 (yK 3 _ f_3 (yK 4 _ f_4 (yK 15 _ f_15 (yK 16 _ f_16 (yK 17 _ f_17 ?_))))))
 clear f_0 f_2 f_3 f_4 f_15 f_16 f_17
 have hal := mi_len ia
 refine zF (zD (K22 (yD .i64 ((i : Nat) : Int) (((mm).length : Nat) : Int) (i < (mm).length) rfl (cmpN_lt i ((mm).length))) ?_ ?_))
 ·intro h15
  replace h15 : i < (mm).length := by omega
  refine zE (zA (zF (K11 zS (zV (zA (zF (yP (zF (zD ?_)))))))))
  have hz := yT mm i (by omega); obtain ⟨x16, hx17⟩ := hz
  have hz := (p_mm).at (k := 3) (fun _ => rfl) hx17
  obtain ⟨g18, off19, hl20, hc21⟩ := hz
  have hlen_x16 := longS_len x16.2.2
  have hshw_x16 := showSpan_len x16.1 x16.2.1
  have hcl_x16 := hcm _ (List.mem_of_getElem? hx17)
  have hcl := hcl_x16
  refine K21 (xE (k := .i64) v_mm i _ g18 off19 el42 hl20 (by omega)) (K32 (yH g18 (off19 + i * 3) [(.int .i32 x16.1), (.int .i32 x16.2.1), (.int .u8 x16.2.2)]) hc21 (K21 (yW (fun b => .pointer (some ⟨b, 0, none⟩)) (.cells [(.int .i32 0), (.int .i32 0), (.int .u8 0)].toArray 45 (0, 0))) ?_))
  intro b22 w23 hN24
  have g_x6 : w.heap.size ≤ b22 := by rw [hN24.num]; exact hs
  replace hb := hb.trans (hN24.below.mono hs)
  replace hs := Nat.le_trans hs (hN24.below.size)
  replace o_t := zB o_t hN24.below
  replace o_nm := zB o_nm hN24.below
  replace o_x3 := zB o_x3 hN24.below
  replace o_x4 := zB o_x4 hN24.below
  replace p_mm := p_mm.below hN24.below
  replace p_am := p_am.below hN24.below
  replace r_x3_1 := r_x3_1.below hN24.below
  have o_x6 := hN24.here
  refine K26 (yX b22 0 [(.int .i32 x16.1), (.int .i32 x16.2.1), (.int .u8 x16.2.2)] [(.int .i32 0), (.int .i32 0), (.int .u8 0)] [(.int .i32 x16.1), (.int .i32 x16.2.1), (.int .u8 x16.2.2)] 45) rfl (by kernel_rfl) o_x6 (by kernel_rfl) rfl ?_
  intro w25 hW26
  replace hb := hb.trans (hW26.below g_x6)
  replace hs := Nat.le_trans hs (Nat.le_of_eq hW26.size.symm)
  replace o_t := zL o_t hW26 (zT o_t o_x6 (by simp))
  replace o_nm := zL o_nm hW26 (zT o_nm o_x6 (by simp))
  replace o_x3 := zL o_x3 hW26 (zT o_x3 o_x6 (by simp))
  replace o_x4 := zL o_x4 hW26 (zT o_x4 o_x6 (by simp))
  replace p_mm := in_p_mm.below hb
  replace p_am := in_p_am.below hb
  replace r_x3_1 := r_x3_1.wrote hW26 (r_x3_1.ne o_x6 (by simp))
  replace o_x6 := hW26.here
  refine zE (zA (zD (K22 (zZ b7 0 (.func (.func 42) #[] #[(.pointer (some ⟨b4, 0, none⟩))])) (zM o_x4 rfl) (K21 (zQ (.pointer (some ⟨b22, 0, none⟩))) (K32 (yH b22 0 [(.int .i32 x16.1), (.int .i32 x16.2.1)]) (K10 (yN o_x6 0)) (K21 (zQ (.pointer (some ⟨b22, 2, none⟩))) (K22 (zZ b22 2 (.int .u8 x16.2.2)) (zM o_x6 rfl) (K21 (L_inline 42 [(S ([35, 32, 64, 109, 105, 115, 115, 105, 110, 103, 58, 32] : List UInt8)), (Value.agg #[(.int .i32 x16.1), (.int .i32 x16.2.1)]), (.func (.func 45) #[] #[]), (.int .u8 x16.2.2), (.pointer (some ⟨b4, 0, none⟩))]) ?_))))))))
  refine K11 (enter (args := [(S ([35, 32, 64, 109, 105, 115, 115, 105, 110, 103, 58, 32] : List UInt8)), (Value.agg #[(.int .i32 x16.1), (.int .i32 x16.2.1)]), (.func (.func 45) #[] #[]), (.int .u8 x16.2.2), (.pointer (some ⟨b4, 0, none⟩))]) Tryz.func42 rfl (by kernel_rfl : _ = 32)) ?_
  refine zF (zD (K21 (yW (fun b => .pointer (some ⟨b, 0, none⟩)) (.cells [(.int .i32 x16.1), (.int .i32 x16.2.1)].toArray 32 (0, 0))) ?_))
  intro b27 w28 hN29
  have g_xi1_6 : w.heap.size ≤ b27 := by rw [hN29.num]; exact hs
  replace hb := hb.trans (hN29.below.mono hs)
  replace hs := Nat.le_trans hs (hN29.below.size)
  replace o_t := zB o_t hN29.below
  replace o_nm := zB o_nm hN29.below
  replace o_x3 := zB o_x3 hN29.below
  replace o_x4 := zB o_x4 hN29.below
  replace p_mm := p_mm.below hN29.below
  replace p_am := p_am.below hN29.below
  replace r_x3_1 := r_x3_1.below hN29.below
  have o_xi1_6 := hN29.here
  refine zE (zA (zF (zD (K32 (yH b27 0 [(.int .i32 x16.1), (.int .i32 x16.2.1)]) (K10 (yN o_xi1_6 0)) (K22 (yA 43 [(Value.agg #[(.int .i32 x16.1), (.int .i32 x16.2.1)])]) (c_points_ShowSpan x16.1 x16.2.1 _) ?_)))))
  rintro _ w30 ⟨rfl, hB31⟩
  replace hb := hb.trans (hB31.mono hs)
  replace hs := Nat.le_trans hs (hB31.size)
  replace o_t := zB o_t hB31
  replace o_nm := zB o_nm hB31
  replace o_x3 := zB o_x3 hB31
  replace o_x4 := zB o_x4 hB31
  replace p_mm := p_mm.below hB31
  replace p_am := p_am.below hB31
  replace r_x3_1 := r_x3_1.below hB31
  refine zI (K21 (zQ (S ((showSpanF x16.1 x16.2.1).1))) (K21 (zQ (.int .i64 ((showSpanF x16.1 x16.2.1).2))) (zJ (zJ (zE (zA (zF (zD (zI (zI (K22 (yA 45 [(.int .u8 x16.2.2)]) (c_words_Long x16.2.2 _ (by (have := hcl; omega))) ?_)))))))))))
  rintro _ w33 ⟨rfl, hB34⟩
  replace hb := hb.trans (hB34.mono hs)
  replace hs := Nat.le_trans hs (hB34.size)
  replace o_t := zB o_t hB34
  replace o_nm := zB o_nm hB34
  replace o_x3 := zB o_x3 hB34
  replace o_x4 := zB o_x4 hB34
  replace p_mm := p_mm.below hB34
  replace p_am := p_am.below hB34
  replace r_x3_1 := r_x3_1.below hB34
  refine zI (K21 (zQ (S (longS x16.2.2))) (K21 (zQ (.int .i64 (toldE x16.2.2))) (zJ (zJ (zE (zA (zD (zI (zI (K21 (L_sadd ([35, 32, 64, 109, 105, 115, 115, 105, 110, 103, 58, 32] : List UInt8) ((showSpanF x16.1 x16.2.1).1) (by (simp only [List.length_append, List.length_cons, List.length_nil]; omega))) (K21 (L_sadd (([35, 32, 64, 109, 105, 115, 115, 105, 110, 103, 58, 32] : List UInt8) ++ (showSpanF x16.1 x16.2.1).1) ([59, 32] : List UInt8) (by (simp only [List.length_append, List.length_cons, List.length_nil]; omega))) (zI (K21 (L_sadd ((([35, 32, 64, 109, 105, 115, 115, 105, 110, 103, 58, 32] : List UInt8) ++ (showSpanF x16.1 x16.2.1).1) ++ ([59, 32] : List UInt8)) (longS x16.2.2) (by (simp only [List.length_append, List.length_cons, List.length_nil]; omega))) (K21 (L_sadd (((([35, 32, 64, 109, 105, 115, 115, 105, 110, 103, 58, 32] : List UInt8) ++ (showSpanF x16.1 x16.2.1).1) ++ ([59, 32] : List UInt8)) ++ longS x16.2.2) ([10] : List UInt8) (by (simp only [List.length_append, List.length_cons, List.length_nil]; omega))) (K22 (yA 44 [(.pointer (some ⟨b4, 0, none⟩)), (S ((((([35, 32, 64, 109, 105, 115, 115, 105, 110, 103, 58, 32] : List UInt8) ++ (showSpanF x16.1 x16.2.1).1) ++ ([59, 32] : List UInt8)) ++ longS x16.2.2) ++ ([10] : List UInt8)))]) (bd_WriteString b4 pp v_x3_1 acc ((((([35, 32, 64, 109, 105, 115, 115, 105, 110, 103, 58, 32] : List UInt8) ++ (showSpanF x16.1 x16.2.1).1) ++ ([59, 32] : List UInt8)) ++ longS x16.2.2) ++ ([10] : List UInt8)) w.heap.size _ hs o_x3 g_x3 r_x3_1 (by assumption) (by omega) (by (simp only [List.length_append, List.length_cons, List.length_nil]; omega))) ?_)))))))))))))))
  rintro _ w37 ⟨q36, rfl, ho40, r_q36, dm38, hC39⟩
  replace hb := hC39.below hb hs (fun k e => e.elim (fun x => x ▸ g_x3) (fun x => (World.ownsRow.lt r_x3_1 k x).1))
  replace hs := Nat.le_trans hs hC39.size
  replace o_t := yL o_t hC39 (zT o_t o_x3 (by simp)) (r_x3_1.ne o_t (by simp))
  replace o_nm := yL o_nm hC39 (zT o_nm o_x3 (by simp)) (r_x3_1.ne o_nm (by simp))
  replace o_x4 := yL o_x4 hC39 (zT o_x4 o_x3 (by simp)) (r_x3_1.ne o_x4 (by simp))
  replace p_mm := in_p_mm.below hb
  replace p_am := in_p_am.below hb
  replace o_x3 := ho40
  refine zE ?_
  refine end_normal [] [] rfl rfl trivial ?_
  show L _ _ _ _ _ _ (Fm.put _ _ (.tuple #[])) _
  refine zE (zP (zA (zD (K21 (xD i 1 (by omega)) (zI (zE ?_))))))
  refine zA ⟨_, ?_, (i + 1), (acc ++ ((((([35, 32, 64, 109, 105, 115, 115, 105, 110, 103, 58, 32] : List UInt8) ++ (showSpanF x16.1 x16.2.1).1) ++ ([59, 32] : List UInt8)) ++ longS x16.2.2) ++ ([10] : List UInt8))), (.pointer (some ⟨b4, 0, none⟩)), q36, rfl, hds, by kernel_rfl, by kernel_rfl, by kernel_rfl, by kernel_rfl, by kernel_rfl, by kernel_rfl, by kernel_rfl, p_mm, p_am, r_q36, o_t, o_nm, o_x3, o_x4, hb, hs, ?_, ?_, ?_⟩
  ·omega
  ·omega
  ·exact .inr rfl
  ·exact wr_miss ia (by assumption)
 ·intro h41
  replace h41 : (mm).length ≤ i := by omega
  refine zE (zA (zF (K11 zN (W_exit (yM (yM (xM (zA (zF (zF (zD (zI (K21 (zQ (.pointer (some ⟨b_t, 0, none⟩))) (K21 (zQ (.pointer (some ⟨b_t, 0, none⟩))) (K22 (zZ b_t 0 (.pointer (some ⟨b_nm, 0, none⟩))) (zM o_t rfl) (K22 (yA 35 [(.pointer (some ⟨b_nm, 0, none⟩))]) (c_all_C b_nm v_am am _ o_nm p_am) ?_))))))))))))))))
  rintro _ w42 ⟨cb45, rfl, o_cb45, g_cb45, hB43⟩
  replace g_cb45 := Nat.le_trans hs g_cb45
  replace hb := hb.trans (hB43.mono hs)
  replace hs := Nat.le_trans hs (hB43.size)
  replace o_t := zB o_t hB43
  replace o_nm := zB o_nm hB43
  replace o_x3 := zB o_x3 hB43
  replace o_x4 := zB o_x4 hB43
  replace p_am := p_am.below hB43
  replace r_x3_1 := r_x3_1.below hB43
  refine zE (zA (yP ?_))
  have lt_t_0 : b_t < w42.heap.size := yR o_t
  have lt_nm_0 : b_nm < w42.heap.size := yR o_nm
  have lt_x3_0 : b4 < w42.heap.size := yR o_x3
  have lt_x4_0 : b7 < w42.heap.size := yR o_x4
  have lt_cb45_0 : cb45 < w42.heap.size := yR o_cb45
  have hs_0 := hs
  have hb_0 := hb
  refine W_range 68 [(.pointer (some ⟨cb45, 0, none⟩))] am (by kernel_rfl) (fun _ _ => rfl) (it_all_C cb45 b_nm v_am am (by omega)) ⟨o_cb45, o_nm, p_am⟩ ((fun D A B h hc hd => ⟨yG h.1 hc (fun h => Nat.not_lt.2 (hd _ h) lt_cb45_0), yG h.2.1 hc (fun h => Nat.not_lt.2 (hd _ h) lt_nm_0), Rd.ch p_am (Nat.le_refl _) h.2.2 hc hd⟩)) (by intro x; rfl) (fun K pre A => ∃ (pp : Value) (acc : List UInt8) (v_x3_1 : Value), (A.heap[b_t]? = some (.cells [(.pointer (some ⟨b_nm, 0, none⟩)), (.pointer (some ⟨b_ln, 0, none⟩)), v_mm, (.pointer (some ⟨b_wh, 0, none⟩))].toArray 66 (0, 0))) ∧ (A.heap[b_nm]? = some (.cells [v_am, (.bool true)].toArray 115 (0, 0))) ∧ (A.heap[b4]? = some (.cells [pp, v_x3_1].toArray 86 (0, 0))) ∧ (A.heap[b7]? = some (.cells [(.func (.func 42) #[] #[(.pointer (some ⟨b4, 0, none⟩))])].toArray 92 (0, 0))) ∧ (A.heap[cb45]? = some (.cells [(.pointer (some ⟨b_nm, 0, none⟩))].toArray 61 (0, 0))) ∧ (Row A w.heap.size 5 1 encByt v_x3_1 acc) ∧ (∀ g, Value.ownBlock v_x3_1 = some g → ¬ Iv w42.heap.size K g) ∧ (Below w.heap.size w A) ∧ (pp = .pointer none ∨ pp = .pointer (some ⟨b4, 0, none⟩)) ∧ (acc = mm.flatMap mlC ++ pre.flatMap nlC)) (fun K c pre A => False) ?_ ?_ ?_ ?_ ?_ ?_
  ·intro A hA
   exact ⟨pp, acc, v_x3_1, zB o_t hA, zB o_nm hA, zB o_x3 hA, zB o_x4 hA, zB o_cb45 hA, r_x3_1.below hA, nr_old r_x3_1 _, hb.trans (hA.mono hs), by exact ip, by exact wr_half ia (by omega)⟩
  ·rintro K pre A B ⟨pp, acc, v_x3_1, o_t, o_nm, o_x3, o_x4, o_cb45, r_x3_1, nr_r_x3_1, hb, rp, ra⟩ hc
   exact ⟨pp, acc, v_x3_1, yG o_t hc (fun h => Nat.not_lt.2 h.1 lt_t_0), yG o_nm hc (fun h => Nat.not_lt.2 h.1 lt_nm_0), yG o_x3 hc (fun h => Nat.not_lt.2 h.1 lt_x3_0), yG o_x4 hc (fun h => Nat.not_lt.2 h.1 lt_x4_0), yG o_cb45 hc (fun h => Nat.not_lt.2 h.1 lt_cb45_0), r_x3_1.ch hc nr_r_x3_1, nr_r_x3_1, hc.below hb hb.size (fun k h => Nat.le_trans hs_0 h.1), rp, ra⟩
  ·intro K c _ A B h hc; exact h.elim
  ·intro l K pre x A hi hN hK0 hK hpre
   obtain ⟨pp, acc, v_x3_1, o_t, o_nm, o_x3, o_x4, o_cb45, r_x3_1, nr_r_x3_1, hb, rp, ra⟩ := hi
   have hs := hb.size
   have hk := Kp.refl (w42.heap.size) K A
   have nv_t : ¬ Iv (w42.heap.size) K b_t := fun h => Nat.not_lt.2 h.1 lt_t_0
   have nv_nm : ¬ Iv (w42.heap.size) K b_nm := fun h => Nat.not_lt.2 h.1 lt_nm_0
   have nv_x3 : ¬ Iv (w42.heap.size) K b4 := fun h => Nat.not_lt.2 h.1 lt_x3_0
   have nv_x4 : ¬ Iv (w42.heap.size) K b7 := fun h => Nat.not_lt.2 h.1 lt_x4_0
   have nv_cb45 : ¬ Iv (w42.heap.size) K cb45 := fun h => Nat.not_lt.2 h.1 lt_cb45_0
   have p_am := in_p_am.below hb
   replace o_cb45 := hN.1
   replace o_nm := hN.2.1
   have hal := na_len ra
   have hlt := tk_lt hpre
   have hlen_x := shortS_len x.2.2
   have hshw_x := showSpan_len x.1 x.2.1
   have hcl := hca _ (List.mem_of_getElem? (tk_one hpre))
   refine zF (zD (K21 (yW (fun b => .pointer (some ⟨b, 0, none⟩)) (.cells [(.int .i32 0), (.int .i32 0)].toArray 32 (0, 0))) ?_))
   intro b46 w47 hN48
   have g_x7 : w.heap.size ≤ b46 := by rw [hN48.num]; exact hs
   have nv_x7 : ¬ Iv w42.heap.size K b46 := fun h => by have := h.2; have := hN48.num; omega
   replace hb := hb.trans (hN48.below.mono hs)
   replace hk := hk.ch (Ch.of_below hN48.below) hK (fun _ h => h.elim)
   replace hK := Nat.le_trans hK (hN48.below.size)
   replace hs := Nat.le_trans hs (hN48.below.size)
   replace o_t := zB o_t hN48.below
   replace o_nm := zB o_nm hN48.below
   replace o_x3 := zB o_x3 hN48.below
   replace o_x4 := zB o_x4 hN48.below
   replace o_cb45 := zB o_cb45 hN48.below
   replace p_am := p_am.below hN48.below
   replace r_x3_1 := r_x3_1.below hN48.below
   have o_x7 := hN48.here
   refine K26 (yX b46 0 [(.int .i32 x.1), (.int .i32 x.2.1)] [(.int .i32 0), (.int .i32 0)] [(.int .i32 x.1), (.int .i32 x.2.1)] 32) rfl (by kernel_rfl) o_x7 (by kernel_rfl) rfl ?_
   intro w49 hW50
   replace hb := hb.trans (hW50.below g_x7)
   replace hk := hk.ch (Ch.of_wrote hW50) hK (fun k e h => nv_x7 (e ▸ h))
   replace hK := Nat.le_trans hK (Nat.le_of_eq hW50.size.symm)
   replace hs := Nat.le_trans hs (Nat.le_of_eq hW50.size.symm)
   replace o_t := zL o_t hW50 (zT o_t o_x7 (by simp))
   replace o_nm := zL o_nm hW50 (zT o_nm o_x7 (by simp))
   replace o_x3 := zL o_x3 hW50 (zT o_x3 o_x7 (by simp))
   replace o_x4 := zL o_x4 hW50 (zT o_x4 o_x7 (by simp))
   replace o_cb45 := zL o_cb45 hW50 (zT o_cb45 o_x7 (by simp))
   replace p_am := in_p_am.below hb
   replace r_x3_1 := r_x3_1.wrote hW50 (r_x3_1.ne o_x7 (by simp))
   replace o_x7 := hW50.here
   refine zE (zA (zD (zJ (zE ?_))))
   refine zA ⟨hk, ?_⟩
   intro w51 hc52
   replace o_t := yG o_t hc52 nv_t
   replace o_nm := yG o_nm hc52 nv_nm
   replace o_x3 := yG o_x3 hc52 nv_x3
   replace o_x4 := yG o_x4 hc52 nv_x4
   replace o_cb45 := yG o_cb45 hc52 nv_cb45
   replace o_x7 := yG o_x7 hc52 nv_x7
   replace r_x3_1 := r_x3_1.ch hc52 nr_r_x3_1
   replace hb := hc52.below hb hs (fun k h => Nat.le_trans hs_0 h.1)
   replace p_am := in_p_am.below hb
   replace hs := hb.size
   replace hK := Nat.le_trans hK hc52.size
   replace hk := Kp.refl (w42.heap.size) K w51
   refine yP (zD (K22 (zZ b7 0 (.func (.func 42) #[] #[(.pointer (some ⟨b4, 0, none⟩))])) (zM o_x4 rfl) (K32 (yH b46 0 [(.int .i32 x.1), (.int .i32 x.2.1)]) (K10 (yN o_x7 0)) (zI (K21 (L_inline 42 [(S ([] : List UInt8)), (Value.agg #[(.int .i32 x.1), (.int .i32 x.2.1)]), (.func (.func 46) #[] #[]), (.int .u8 x.2.2), (.pointer (some ⟨b4, 0, none⟩))]) ?_)))))
   refine K11 (enter (args := [(S ([] : List UInt8)), (Value.agg #[(.int .i32 x.1), (.int .i32 x.2.1)]), (.func (.func 46) #[] #[]), (.int .u8 x.2.2), (.pointer (some ⟨b4, 0, none⟩))]) Tryz.func42 rfl (by kernel_rfl : _ = 32)) ?_
   refine zF (zD (K21 (yW (fun b => .pointer (some ⟨b, 0, none⟩)) (.cells [(.int .i32 x.1), (.int .i32 x.2.1)].toArray 32 (0, 0))) ?_))
   intro b53 w54 hN55
   have g_xi2_6 : w.heap.size ≤ b53 := by rw [hN55.num]; exact hs
   have nv_xi2_6 : ¬ Iv w42.heap.size K b53 := fun h => by have := h.2; have := hN55.num; omega
   replace hb := hb.trans (hN55.below.mono hs)
   replace hk := hk.ch (Ch.of_below hN55.below) hK (fun _ h => h.elim)
   replace hK := Nat.le_trans hK (hN55.below.size)
   replace hs := Nat.le_trans hs (hN55.below.size)
   replace o_t := zB o_t hN55.below
   replace o_nm := zB o_nm hN55.below
   replace o_x3 := zB o_x3 hN55.below
   replace o_x4 := zB o_x4 hN55.below
   replace o_cb45 := zB o_cb45 hN55.below
   replace p_am := p_am.below hN55.below
   replace r_x3_1 := r_x3_1.below hN55.below
   have o_xi2_6 := hN55.here
   refine zE (zA (zF (zD (K32 (yH b53 0 [(.int .i32 x.1), (.int .i32 x.2.1)]) (K10 (yN o_xi2_6 0)) (K22 (yA 43 [(Value.agg #[(.int .i32 x.1), (.int .i32 x.2.1)])]) (c_points_ShowSpan x.1 x.2.1 _) ?_)))))
   rintro _ w56 ⟨rfl, hB57⟩
   replace hb := hb.trans (hB57.mono hs)
   replace hk := hk.ch (Ch.of_below hB57) hK (fun _ h => h.elim)
   replace hK := Nat.le_trans hK (hB57.size)
   replace hs := Nat.le_trans hs (hB57.size)
   replace o_t := zB o_t hB57
   replace o_nm := zB o_nm hB57
   replace o_x3 := zB o_x3 hB57
   replace o_x4 := zB o_x4 hB57
   replace o_cb45 := zB o_cb45 hB57
   replace p_am := p_am.below hB57
   replace r_x3_1 := r_x3_1.below hB57
   refine zI (K21 (zQ (S ((showSpanF x.1 x.2.1).1))) (K21 (zQ (.int .i64 ((showSpanF x.1 x.2.1).2))) (zJ (zJ (zE (zA (zF (zD (zI (zI (K22 (yA 46 [(.int .u8 x.2.2)]) (c_words_Short x.2.2 _ (by (have := hcl; omega))) ?_)))))))))))
   rintro _ w59 ⟨rfl, hB60⟩
   replace hb := hb.trans (hB60.mono hs)
   replace hk := hk.ch (Ch.of_below hB60) hK (fun _ h => h.elim)
   replace hK := Nat.le_trans hK (hB60.size)
   replace hs := Nat.le_trans hs (hB60.size)
   replace o_t := zB o_t hB60
   replace o_nm := zB o_nm hB60
   replace o_x3 := zB o_x3 hB60
   replace o_x4 := zB o_x4 hB60
   replace o_cb45 := zB o_cb45 hB60
   replace p_am := p_am.below hB60
   replace r_x3_1 := r_x3_1.below hB60
   refine zI (K21 (zQ (S (shortS x.2.2))) (K21 (zQ (.int .i64 (toldE x.2.2))) (zJ (zJ (zE (zA (zD (zI (zI (K21 (L_sadd ([] : List UInt8) ((showSpanF x.1 x.2.1).1) (by (simp only [List.length_append, List.length_cons, List.length_nil]; omega))) (K21 (L_sadd (([] : List UInt8) ++ (showSpanF x.1 x.2.1).1) ([59, 32] : List UInt8) (by (simp only [List.length_append, List.length_cons, List.length_nil]; omega))) (zI (K21 (L_sadd ((([] : List UInt8) ++ (showSpanF x.1 x.2.1).1) ++ ([59, 32] : List UInt8)) (shortS x.2.2) (by (simp only [List.length_append, List.length_cons, List.length_nil]; omega))) (K21 (L_sadd (((([] : List UInt8) ++ (showSpanF x.1 x.2.1).1) ++ ([59, 32] : List UInt8)) ++ shortS x.2.2) ([10] : List UInt8) (by (simp only [List.length_append, List.length_cons, List.length_nil]; omega))) (K22 (yA 44 [(.pointer (some ⟨b4, 0, none⟩)), (S ((((([] : List UInt8) ++ (showSpanF x.1 x.2.1).1) ++ ([59, 32] : List UInt8)) ++ shortS x.2.2) ++ ([10] : List UInt8)))]) (bd_WriteString b4 pp v_x3_1 acc ((((([] : List UInt8) ++ (showSpanF x.1 x.2.1).1) ++ ([59, 32] : List UInt8)) ++ shortS x.2.2) ++ ([10] : List UInt8)) w.heap.size _ hs o_x3 g_x3 r_x3_1 (by assumption) (by omega) (by (simp only [List.length_append, List.length_cons, List.length_nil]; omega))) ?_)))))))))))))))
   rintro _ w63 ⟨q62, rfl, ho66, r_q62, dm64, hC65⟩
   have hnk : ∀ k, Dm b4 v_x3_1 k → ¬ Iv (w42.heap.size) K k := fun k e => e.elim (fun x => by rw [x]; exact nv_x3) (fun x => nr_r_x3_1 k x)
   have nr_r_q62 : ∀ g, Value.ownBlock q62 = some g → ¬ Iv (w42.heap.size) K g := fun g hg => (dm64 g hg).elim (fun x y => by have := y.2; omega) (fun e => hnk g e)
   replace hk := hk.ch hC65 hK hnk
   replace hK := Nat.le_trans hK hC65.size
   replace hb := hC65.below hb hs (fun k e => e.elim (fun x => x ▸ g_x3) (fun x => (World.ownsRow.lt r_x3_1 k x).1))
   replace hs := Nat.le_trans hs hC65.size
   replace o_t := yL o_t hC65 (zT o_t o_x3 (by simp)) (r_x3_1.ne o_t (by simp))
   replace o_nm := yL o_nm hC65 (zT o_nm o_x3 (by simp)) (r_x3_1.ne o_nm (by simp))
   replace o_x4 := yL o_x4 hC65 (zT o_x4 o_x3 (by simp)) (r_x3_1.ne o_x4 (by simp))
   replace o_cb45 := yL o_cb45 hC65 (zT o_cb45 o_x3 (by simp)) (r_x3_1.ne o_cb45 (by simp))
   replace p_am := in_p_am.below hb
   replace o_x3 := ho66
   refine zE ?_
   refine end_normal [] [] rfl rfl trivial ?_
   show L _ _ _ _ _ _ (Fm.put _ _ (.tuple #[])) _
   refine zE (zP ?_)
   refine round_normal hk ⟨o_cb45, o_nm, p_am⟩ ⟨(.pointer (some ⟨b4, 0, none⟩)), (acc ++ ((((([] : List UInt8) ++ (showSpanF x.1 x.2.1).1) ++ ([59, 32] : List UInt8)) ++ shortS x.2.2) ++ ([10] : List UInt8))), q62, o_t, o_nm, o_x3, o_x4, o_cb45, r_q62, nr_r_q62, hb, ?_, ?_⟩
   ·exact .inr rfl
   ·exact wr_name ra
  ·intro K A hi hsz o_D0
   obtain ⟨pp, acc, v_x3_1, o_t, o_nm, o_x3, o_x4, o_cb45, r_x3_1, nr_r_x3_1, hb, rp, ra⟩ := hi
   have hs : w.heap.size ≤ _ := hb.size
   refine zP (zA (zF (zD ?_)))
   have bz := Bld.ofRow (by assumption) o_x3 r_x3_1 g_x3 (r_x3_1.ne o_x3 (by simp))
   refine K22 (yA 47 [(.pointer (some ⟨b4, 0, none⟩))]) (bldStr (fun B b l w h hB => Tryz.Builder_String_any_k B b l w h hB) acc _ bz hs) ?_
   rintro _ w67 ⟨rfl, nB70, hB68, hO69⟩
   have n_o_t := Bld.obj_kept bz hO69 o_t (by intro cs X fz e; first | (simp [mapObj] at e; done) | (injection e with _ e2 _; subst e2; decide))
   have n_o_nm := Bld.obj_kept bz hO69 o_nm (by intro cs X fz e; first | (simp [mapObj] at e; done) | (injection e with _ e2 _; subst e2; decide))
   have n_o_x4 := Bld.obj_kept bz hO69 o_x4 (by intro cs X fz e; first | (simp [mapObj] at e; done) | (injection e with _ e2 _; subst e2; decide))
   have n_o_cb45 := Bld.obj_kept bz hO69 o_cb45 (by intro cs X fz e; first | (simp [mapObj] at e; done) | (injection e with _ e2 _; subst e2; decide))
   have n_o_D0 := Bld.obj_kept bz hO69 o_D0 (by intro cs X fz e; first | (simp [mapObj] at e; done) | (injection e with _ e2 _; subst e2; decide))
   replace hb := hb.trans hB68
   replace hs := Nat.le_trans hs hB68.size
   have n_p_mm := in_p_mm.below hb
   have n_p_am := in_p_am.below hb
   replace o_D0 := n_o_D0; clear n_o_D0
   replace bz := nB70
   refine zJ (zE (zA (zX (end_retM (ds := [⟨.collected w42.heap.size, #[]⟩]) (congrArg (List.cons _) hds) (Lv_mark o_D0 ?_)))))
   intro w71 hW72
   replace hb := hb.trans (hW72.below hs_0)
   replace hs := Nat.le_trans hs (Nat.le_of_eq hW72.size.symm)
   replace bz := Bld.wrote bz hW72 o_D0 (by intro cs X fz e; first | (simp [mapObj] at e; done) | (injection e with _ e2 _; subst e2; decide))
   refine Lv_nil [.tmp 2] [(S acc)] rfl ⟨by kernel_rfl, trivial⟩ ?_
   have e0 : acc = (writeC mm am) := by first | rfl | exact ra
   exact ⟨congrArg S e0, hb⟩
  ·intro K c _ x A _ h; exact h.elim
theorem c_toldN (b_t : Nat) (b_nm : Nat) (b_ln : Nat) (v_mm : Value) (b_wh : Nat) (few : Int) (v_am : Value) (am : List (Int × Int × Int)) (w : World) (o_t : w.heap[b_t]? = some (.cells [(.pointer (some ⟨b_nm, 0, none⟩)), (.pointer (some ⟨b_ln, 0, none⟩)), v_mm, (.pointer (some ⟨b_wh, 0, none⟩))].toArray 66 (0, 0))) (o_nm : w.heap[b_nm]? = some (.cells [v_am, (.bool true)].toArray 115 (0, 0))) (p_am : Rd w encSpanC v_am am) (hl : am.length ≤ 1114112) :
  Calls Tryz.prog 11 #[(.pointer (some ⟨b_t, 0, none⟩)), (.bool false), (.int .i64 few)] w (Ret fun v w' => ∃ (q0 : Value), v = q0 ∧ Row w' w.heap.size 34 3 encSpanC q0 (fewC am few) ∧ Below w.heap.size w w') := by
 refine K11 (enterM (args := [(.pointer (some ⟨b_t, 0, none⟩)), (.bool false), (.int .i64 few)]) Tryz.func11 rfl (by kernel_rfl : _ = 39)) ?_
 have hb := Below.refl w.heap.size w
 have hs : w.heap.size ≤ w.heap.size := Nat.le_refl _
 have in_p_am := p_am
 refine zF (zD (K21 (yW (fun b => .pointer (some ⟨b, 0, none⟩)) (.cells [(.int .i64 few)].toArray 3 (0, 0))) ?_))
 intro b1 w2 hN3
 have g_x5 : w.heap.size ≤ b1 := by rw [hN3.num]; exact hs
 replace hb := hb.trans (hN3.below.mono hs)
 replace hs := Nat.le_trans hs (hN3.below.size)
 replace o_t := zB o_t hN3.below
 replace o_nm := zB o_nm hN3.below
 replace p_am := p_am.below hN3.below
 have o_x5 := hN3.here
 refine K21 (yW (fun b => .pointer (some ⟨b, 0, none⟩)) (.cells [(.slice none 0 0)].toArray 29 (0, 0))) ?_
 intro b4 w5 hN6
 have g_x6 : w.heap.size ≤ b4 := by rw [hN6.num]; exact hs
 replace hb := hb.trans (hN6.below.mono hs)
 replace hs := Nat.le_trans hs (hN6.below.size)
 replace o_t := zB o_t hN6.below
 replace o_nm := zB o_nm hN6.below
 replace o_x5 := zB o_x5 hN6.below
 replace p_am := p_am.below hN6.below
 have o_x6 := hN6.here
 refine zE (zA (zF (zD (zI (K22 (yA 36 [(.pointer (some ⟨b_t, 0, none⟩))]) (c_tNamed b_t b_nm b_ln v_mm b_wh _ o_t) ?_)))))
 rintro _ w7 ⟨cb10, rfl, o_cb10, g_cb10, hB8⟩
 replace g_cb10 := Nat.le_trans hs g_cb10
 replace hb := hb.trans (hB8.mono hs)
 replace hs := Nat.le_trans hs (hB8.size)
 replace o_t := zB o_t hB8
 replace o_nm := zB o_nm hB8
 replace o_x5 := zB o_x5 hB8
 replace o_x6 := zB o_x6 hB8
 replace p_am := p_am.below hB8
 refine zJ (zE (zA (zF (zF (zD (zI (zE (zA (K11 zN (zV (zA (zF (zD (K21 (yW (fun b => .pointer (some ⟨b, 0, none⟩)) (.cells [(.slice none 0 0)].toArray 29 (0, 0))) ?_))))))))))))))
 intro b11 w12 hN13
 have ne_x6_x8 : NE b4 b11 := by have := (yR o_x6); have := hN13.num; show _ ≠ _; omega
 have g_x8 : w.heap.size ≤ b11 := by rw [hN13.num]; exact hs
 replace hb := hb.trans (hN13.below.mono hs)
 replace hs := Nat.le_trans hs (hN13.below.size)
 replace o_t := zB o_t hN13.below
 replace o_nm := zB o_nm hN13.below
 replace o_x5 := zB o_x5 hN13.below
 replace o_x6 := zB o_x6 hN13.below
 replace o_cb10 := zB o_cb10 hN13.below
 replace p_am := p_am.below hN13.below
 have o_x8 := hN13.here
 refine zE (zA (zF (zF (zD (zI (K21 (zQ (.bool false)) (zE (zA (K11 zN (zV (zA (zF (zF (zD (zI (zE (zA (yP ?_))))))))))))))))))
 have lt_t_0 : b_t < w12.heap.size := yR o_t
 have lt_nm_0 : b_nm < w12.heap.size := yR o_nm
 have lt_x5_0 : b1 < w12.heap.size := yR o_x5
 have lt_x6_0 : b4 < w12.heap.size := yR o_x6
 have lt_cb10_0 : cb10 < w12.heap.size := yR o_cb10
 have lt_x8_0 : b11 < w12.heap.size := yR o_x8
 have hs_0 := hs
 have hb_0 := hb
 refine W_range 70 [(.pointer (some ⟨cb10, 0, none⟩))] am (by kernel_rfl) (fun _ _ => rfl) (it_Named cb10 b_t b_nm b_ln v_mm b_wh v_am am (by omega)) ⟨o_cb10, o_t, o_nm, p_am⟩ ((fun D A B h hc hd => ⟨yG h.1 hc (fun h => Nat.not_lt.2 (hd _ h) lt_cb10_0), yG h.2.1 hc (fun h => Nat.not_lt.2 (hd _ h) lt_t_0), yG h.2.2.1 hc (fun h => Nat.not_lt.2 (hd _ h) lt_nm_0), Rd.ch p_am (Nat.le_refl _) h.2.2.2 hc hd⟩)) (by intro x; rfl) (fun K pre A => ∃ (acc : List SpI) (v_x8_0 : Value), (A.heap[b_t]? = some (.cells [(.pointer (some ⟨b_nm, 0, none⟩)), (.pointer (some ⟨b_ln, 0, none⟩)), v_mm, (.pointer (some ⟨b_wh, 0, none⟩))].toArray 66 (0, 0))) ∧ (A.heap[b_nm]? = some (.cells [v_am, (.bool true)].toArray 115 (0, 0))) ∧ (A.heap[b1]? = some (.cells [(.int .i64 few)].toArray 3 (0, 0))) ∧ (A.heap[b4]? = some (.cells [(.slice none 0 0)].toArray 29 (0, 0))) ∧ (A.heap[cb10]? = some (.cells [(.pointer (some ⟨b_t, 0, none⟩))].toArray 23 (0, 0))) ∧ (A.heap[b11]? = some (.cells [v_x8_0].toArray 29 (0, 0))) ∧ (Row A w.heap.size 34 3 encSpanC v_x8_0 acc) ∧ (∀ g, Value.ownBlock v_x8_0 = some g → ¬ Iv w12.heap.size K g) ∧ (Below w.heap.size w A) ∧ (acc = pre) ∧ (few < 0 ∨ (pre.length : Int) ≤ few)) (fun K c pre A => (∃ (acc : List SpI) (v_x6_0 : Value), (c = .ret) ∧ (A.heap[b_t]? = some (.cells [(.pointer (some ⟨b_nm, 0, none⟩)), (.pointer (some ⟨b_ln, 0, none⟩)), v_mm, (.pointer (some ⟨b_wh, 0, none⟩))].toArray 66 (0, 0))) ∧ (A.heap[b_nm]? = some (.cells [v_am, (.bool true)].toArray 115 (0, 0))) ∧ (A.heap[b1]? = some (.cells [(.int .i64 few)].toArray 3 (0, 0))) ∧ (A.heap[b4]? = some (.cells [v_x6_0].toArray 29 (0, 0))) ∧ (A.heap[cb10]? = some (.cells [(.pointer (some ⟨b_t, 0, none⟩))].toArray 23 (0, 0))) ∧ (Row A w.heap.size 34 3 encSpanC v_x6_0 acc) ∧ (∀ g, Value.ownBlock v_x6_0 = some g → ¬ Iv w12.heap.size K g) ∧ (Below w.heap.size w A) ∧ (acc = pre) ∧ ((pre.length : Int) = few + 1) ∧ (0 ≤ few))) ?_ ?_ ?_ ?_ ?_ ?_
 ·intro A hA
  exact ⟨[], (.slice none 0 0), zB o_t hA, zB o_nm hA, zB o_x5 hA, zB o_x6 hA, zB o_cb10 hA, zB o_x8 hA, Row.nil _ _ _ _ _, nr_nil _ _, hb.trans (hA.mono hs), by rfl, by (simp only [List.length_nil]; omega)⟩
 ·rintro K pre A B ⟨acc, v_x8_0, o_t, o_nm, o_x5, o_x6, o_cb10, o_x8, r_x8_0, nr_r_x8_0, hb, p1, p2⟩ hc
  exact ⟨acc, v_x8_0, yG o_t hc (fun h => Nat.not_lt.2 h.1 lt_t_0), yG o_nm hc (fun h => Nat.not_lt.2 h.1 lt_nm_0), yG o_x5 hc (fun h => Nat.not_lt.2 h.1 lt_x5_0), yG o_x6 hc (fun h => Nat.not_lt.2 h.1 lt_x6_0), yG o_cb10 hc (fun h => Nat.not_lt.2 h.1 lt_cb10_0), yG o_x8 hc (fun h => Nat.not_lt.2 h.1 lt_x8_0), r_x8_0.ch hc nr_r_x8_0, nr_r_x8_0, hc.below hb hb.size (fun k h => Nat.le_trans hs_0 h.1), p1, p2⟩
 ·rintro K c pre A B (⟨acc, v_x6_0, hcc, o_t, o_nm, o_x5, o_x6, o_cb10, r_x6_0, nr_r_x6_0, hb, q1, q2, q3⟩) hc
  exact ⟨acc, v_x6_0, hcc, yG o_t hc (fun h => Nat.not_lt.2 h.1 lt_t_0), yG o_nm hc (fun h => Nat.not_lt.2 h.1 lt_nm_0), yG o_x5 hc (fun h => Nat.not_lt.2 h.1 lt_x5_0), yG o_x6 hc (fun h => Nat.not_lt.2 h.1 lt_x6_0), yG o_cb10 hc (fun h => Nat.not_lt.2 h.1 lt_cb10_0), r_x6_0.ch hc nr_r_x6_0, nr_r_x6_0, hc.below hb hb.size (fun k h => Nat.le_trans hs_0 h.1), q1, q2, q3⟩
 ·intro l K pre x A hi hN hK0 hK hpre
  obtain ⟨acc, v_x8_0, o_t, o_nm, o_x5, o_x6, o_cb10, o_x8, r_x8_0, nr_r_x8_0, hb, p1, p2⟩ := hi
  have hs := hb.size
  have hk := Kp.refl (w12.heap.size) K A
  have nv_t : ¬ Iv (w12.heap.size) K b_t := fun h => Nat.not_lt.2 h.1 lt_t_0
  have nv_nm : ¬ Iv (w12.heap.size) K b_nm := fun h => Nat.not_lt.2 h.1 lt_nm_0
  have nv_x5 : ¬ Iv (w12.heap.size) K b1 := fun h => Nat.not_lt.2 h.1 lt_x5_0
  have nv_x6 : ¬ Iv (w12.heap.size) K b4 := fun h => Nat.not_lt.2 h.1 lt_x6_0
  have nv_cb10 : ¬ Iv (w12.heap.size) K cb10 := fun h => Nat.not_lt.2 h.1 lt_cb10_0
  have nv_x8 : ¬ Iv (w12.heap.size) K b11 := fun h => Nat.not_lt.2 h.1 lt_x8_0
  have p_am := in_p_am.below hb
  replace o_cb10 := hN.1
  replace o_t := hN.2.1
  replace o_nm := hN.2.2.1
  have hlt := tk_lt hpre
  have hal : acc.length = pre.length := by rw [p1]
  refine zF (zD (K21 (yW (fun b => .pointer (some ⟨b, 0, none⟩)) (.cells [(.int .i32 0), (.int .i32 0)].toArray 32 (0, 0))) ?_))
  intro b14 w15 hN16
  have g_x9 : w.heap.size ≤ b14 := by rw [hN16.num]; exact hs
  have nv_x9 : ¬ Iv w12.heap.size K b14 := fun h => by have := h.2; have := hN16.num; omega
  replace hb := hb.trans (hN16.below.mono hs)
  replace hk := hk.ch (Ch.of_below hN16.below) hK (fun _ h => h.elim)
  replace hK := Nat.le_trans hK (hN16.below.size)
  replace hs := Nat.le_trans hs (hN16.below.size)
  replace o_t := zB o_t hN16.below
  replace o_nm := zB o_nm hN16.below
  replace o_x5 := zB o_x5 hN16.below
  replace o_x6 := zB o_x6 hN16.below
  replace o_cb10 := zB o_cb10 hN16.below
  replace o_x8 := zB o_x8 hN16.below
  replace p_am := p_am.below hN16.below
  replace r_x8_0 := r_x8_0.below hN16.below
  have o_x9 := hN16.here
  refine K26 (yX b14 0 [(.int .i32 x.1), (.int .i32 x.2.1)] [(.int .i32 0), (.int .i32 0)] [(.int .i32 x.1), (.int .i32 x.2.1)] 32) rfl (by kernel_rfl) o_x9 (by kernel_rfl) rfl ?_
  intro w17 hW18
  replace hb := hb.trans (hW18.below g_x9)
  replace hk := hk.ch (Ch.of_wrote hW18) hK (fun k e h => nv_x9 (e ▸ h))
  replace hK := Nat.le_trans hK (Nat.le_of_eq hW18.size.symm)
  replace hs := Nat.le_trans hs (Nat.le_of_eq hW18.size.symm)
  replace o_t := zL o_t hW18 (zT o_t o_x9 (by simp))
  replace o_nm := zL o_nm hW18 (zT o_nm o_x9 (by simp))
  replace o_x5 := zL o_x5 hW18 (zT o_x5 o_x9 (by simp))
  replace o_x6 := zL o_x6 hW18 (zT o_x6 o_x9 (by simp))
  replace o_cb10 := zL o_cb10 hW18 (zT o_cb10 o_x9 (by simp))
  replace o_x8 := zL o_x8 hW18 (zT o_x8 o_x9 (by simp))
  replace p_am := in_p_am.below hb
  replace r_x8_0 := r_x8_0.wrote hW18 (r_x8_0.ne o_x9 (by simp))
  replace o_x9 := hW18.here
  refine zE (zA (zD (zJ (zE ?_))))
  refine zA ⟨hk, ?_⟩
  intro w19 hc20
  replace o_t := yG o_t hc20 nv_t
  replace o_nm := yG o_nm hc20 nv_nm
  replace o_x5 := yG o_x5 hc20 nv_x5
  replace o_x6 := yG o_x6 hc20 nv_x6
  replace o_cb10 := yG o_cb10 hc20 nv_cb10
  replace o_x8 := yG o_x8 hc20 nv_x8
  replace o_x9 := yG o_x9 hc20 nv_x9
  replace r_x8_0 := r_x8_0.ch hc20 nr_r_x8_0
  replace hb := hc20.below hb hs (fun k h => Nat.le_trans hs_0 h.1)
  replace p_am := in_p_am.below hb
  replace hs := hb.size
  replace hK := Nat.le_trans hK hc20.size
  replace hk := Kp.refl (w12.heap.size) K w19
  refine yP (zF (zD (K22 (zZ b11 0 v_x8_0) (zM o_x8 rfl) (K32 (yH b14 0 [(.int .i32 x.1), (.int .i32 x.2.1)]) (K10 (yN o_x9 0)) (zI (K21 (zQ (Value.agg #[(.int .i32 x.1), (.int .i32 x.2.1), (.int .u8 x.2.2)])) (K21 (L_app el29 w.heap.size v_x8_0 acc (x.1, x.2.1, x.2.2) hs r_x8_0 (by omega) (by kernel_rfl) rfl rfl (by kernel_rfl) rfl) ?_)))))))
  intro v21 w22 hr23 hg24 how25
  have nr2 := nr_app how25 nr_r_x8_0 hK
  replace hb := hb.grown hg24 hs (fun k hk => (World.ownsRow.lt r_x8_0 k hk).1)
  replace hk := hk.ch (Ch.of_grown hg24) hK (fun k e => nr_r_x8_0 k e)
  replace hK := Nat.le_trans hK (hg24.size)
  replace hs := Nat.le_trans hs (hg24.size)
  replace o_t := yF o_t hg24 (r_x8_0.ne o_t (by simp))
  replace o_nm := yF o_nm hg24 (r_x8_0.ne o_nm (by simp))
  replace o_x5 := yF o_x5 hg24 (r_x8_0.ne o_x5 (by simp))
  replace o_x6 := yF o_x6 hg24 (r_x8_0.ne o_x6 (by simp))
  replace o_cb10 := yF o_cb10 hg24 (r_x8_0.ne o_cb10 (by simp))
  replace o_x8 := yF o_x8 hg24 (r_x8_0.ne o_x8 (by simp))
  replace p_am := in_p_am.below hb
  replace r_x8_0 := hr23
  have nr_r_x8_0 := nr2; clear nr2
  refine K26 (xC b11 0 v21 [v_x8_0] [v21] 29) r_x8_0.one (by kernel_rfl) o_x8 (by simp) rfl ?_
  intro w26 hW27
  replace hb := hb.trans (hW27.below g_x8)
  replace hk := hk.ch (Ch.of_wrote hW27) hK (fun k e h => nv_x8 (e ▸ h))
  replace hK := Nat.le_trans hK (Nat.le_of_eq hW27.size.symm)
  replace hs := Nat.le_trans hs (Nat.le_of_eq hW27.size.symm)
  replace o_t := zL o_t hW27 (zT o_t o_x8 (by simp))
  replace o_nm := zL o_nm hW27 (zT o_nm o_x8 (by simp))
  replace o_x5 := zL o_x5 hW27 (zT o_x5 o_x8 (by simp))
  replace o_x6 := zL o_x6 hW27 ne_x6_x8
  replace o_cb10 := zL o_cb10 hW27 (zT o_cb10 o_x8 (by simp))
  replace p_am := in_p_am.below hb
  replace r_x8_0 := r_x8_0.wrote hW27 (r_x8_0.ne o_x8 (by simp))
  replace o_x8 := hW27.here
  refine zE (zA (zF (zD (K22 (zZ b1 0 (.int .i64 few)) (zM o_x5 rfl) (K22 (yD .i64 few 0 (0 ≤ few) rfl (cmp_ge few 0)) ?_ ?_)))))
  ·intro h28
   replace h28 : 0 ≤ few := by omega
   refine zI (K11 zY (K22 (zZ b11 0 v21) (zM o_x8 rfl) (K11 zY (K11 (L_len 29 34 ((acc ++ [(x.1, x.2.1, x.2.2)])).length v21 rfl Tryz.underlying29 (r_x8_0.rd).len) (K11 zY (K22 (zZ b1 0 (.int .i64 few)) (zM o_x5 rfl) (K11 zY (K22 (yD .i64 ((((acc ++ [(x.1, x.2.1, x.2.2)])).length : Nat) : Int) few (few < ((((acc ++ [(x.1, x.2.1, x.2.2)])).length : Nat) : Int)) rfl (cmp_gt ((((acc ++ [(x.1, x.2.1, x.2.2)])).length : Nat) : Int) few)) ?_ ?_))))))))
   ·intro h29
    replace h29 : few < ((((acc ++ [(x.1, x.2.1, x.2.2)])).length : Nat) : Int) := by omega
    refine K11 yU (zE (zA (K11 zS (zF (zD (K22 (zZ b11 0 v21) (zM o_x8 rfl) (K26 (xC b4 0 v21 [(.slice none 0 0)] [v21] 29) r_x8_0.one (by kernel_rfl) o_x6 (by simp) rfl ?_)))))))
    intro w30 hW31
    replace hb := hb.trans (hW31.below g_x6)
    replace hk := hk.ch (Ch.of_wrote hW31) hK (fun k e h => nv_x6 (e ▸ h))
    replace hK := Nat.le_trans hK (Nat.le_of_eq hW31.size.symm)
    replace hs := Nat.le_trans hs (Nat.le_of_eq hW31.size.symm)
    replace o_t := zL o_t hW31 (zT o_t o_x6 (by simp))
    replace o_nm := zL o_nm hW31 (zT o_nm o_x6 (by simp))
    replace o_x5 := zL o_x5 hW31 (zT o_x5 o_x6 (by simp))
    replace o_cb10 := zL o_cb10 hW31 (zT o_cb10 o_x6 (by simp))
    replace r_x8_0 := r_x8_0.wrote hW31 (r_x8_0.ne o_x6 (by simp))
    replace o_x6 := hW31.here
    refine zE (zA (zX (zU ?_)))
    refine round_ret hk (⟨(acc ++ [(x.1, x.2.1, x.2.2)]), v21, rfl, o_t, o_nm, o_x5, o_x6, o_cb10, r_x8_0, nr_r_x8_0, hb, ?_, ?_, ?_⟩)
    ·rw [p1]
    ·have hx : (acc ++ [(x.1, x.2.1, x.2.2)]).length = pre.length + 1 := (by simp [p1]); simp only [List.length_append, List.length_cons, List.length_nil] at *; omega
    ·omega
   ·intro h32
    replace h32 : ((((acc ++ [(x.1, x.2.1, x.2.2)])).length : Nat) : Int) ≤ few := by omega
    refine K11 yU (zE (zA (K11 zN (zV (zP ?_)))))
    refine round_normal hk ⟨o_cb10, o_t, o_nm, p_am⟩ ⟨(acc ++ [(x.1, x.2.1, x.2.2)]), v21, o_t, o_nm, o_x5, o_x6, o_cb10, o_x8, r_x8_0, nr_r_x8_0, hb, ?_, ?_⟩
    ·rw [p1]
    ·have hx : (acc ++ [(x.1, x.2.1, x.2.2)]).length = pre.length + 1 := (by simp [p1]); rw [List.length_append]; simp only [List.length_cons, List.length_nil]; omega
  ·intro h33
   replace h33 : few < 0 := by omega
   refine zI (K11 yC (K11 yC (K11 yC (K11 yC (K11 yV (zE (zA (K11 zN (zV (zP ?_))))))))))
   refine round_normal hk ⟨o_cb10, o_t, o_nm, p_am⟩ ⟨(acc ++ [(x.1, x.2.1, x.2.2)]), v21, o_t, o_nm, o_x5, o_x6, o_cb10, o_x8, r_x8_0, nr_r_x8_0, hb, ?_, ?_⟩
   ·rw [p1]
   ·have hx : (acc ++ [(x.1, x.2.1, x.2.2)]).length = pre.length + 1 := (by simp [p1]); rw [List.length_append]; simp only [List.length_cons, List.length_nil]; omega
 ·intro K A hi hsz o_D0
  obtain ⟨acc, v_x8_0, o_t, o_nm, o_x5, o_x6, o_cb10, o_x8, r_x8_0, nr_r_x8_0, hb, p1, p2⟩ := hi
  have hs : w.heap.size ≤ _ := hb.size
  refine zP (zA (zF (zD (K22 (zZ b11 0 v_x8_0) (zM o_x8 rfl) (K26 (xC b4 0 v_x8_0 [(.slice none 0 0)] [v_x8_0] 29) r_x8_0.one (by kernel_rfl) o_x6 (by simp) rfl ?_)))))
  intro w34 hW35
  replace hb := hb.trans (hW35.below g_x6)
  replace hs := Nat.le_trans hs (Nat.le_of_eq hW35.size.symm)
  replace o_D0 := zL o_D0 hW35 (zT o_D0 o_x6 (by simp))
  replace r_x8_0 := r_x8_0.wrote hW35 (r_x8_0.ne o_x6 (by simp))
  replace o_x6 := hW35.here
  refine zE (zA (zX (K11 (end_retM (ds := [⟨.collected w12.heap.size, #[]⟩])) (Lv_mark o_D0 ?_))))
  intro w36 hW37
  replace hb := hb.trans (hW37.below hs_0)
  replace hs := Nat.le_trans hs (Nat.le_of_eq hW37.size.symm)
  replace o_x6 := zL o_x6 hW37 (zT o_x6 o_D0 (by simp))
  replace r_x8_0 := r_x8_0.wrote hW37 (r_x8_0.ne o_D0 (by simp))
  refine Lv_nil [.cell 6 29] [v_x8_0] rfl ⟨⟨⟨b4, 0, none⟩, by kernel_rfl, load_one (by kernel_rfl) (zM o_x6 rfl)⟩, trivial⟩ ?_
  have e51 : acc = (fewC am few) := by (rw [p1]; exact few_all (by omega))
  exact ⟨v_x8_0, rfl, r_x8_0.cast e51, hb⟩
 ·intro K c pre0 x0 A hpre hx hsz o_D0
  obtain ⟨pre, hpreq⟩ : ∃ pre, pre = pre0 ++ [x0] := ⟨_, rfl⟩
  rw [← hpreq] at hpre; try rw [← hpreq] at hx
  rcases hx with ⟨acc, v_x6_0, rfl, o_t, o_nm, o_x5, o_x6, o_cb10, r_x6_0, nr_r_x6_0, hb, q1, q2, q3⟩
  have hs : w.heap.size ≤ _ := hb.size
  refine zX (zU (zH (K11 (end_retM (ds := [⟨.collected w12.heap.size, #[]⟩])) (Lv_mark o_D0 ?_))))
  intro w38 hW39
  replace hb := hb.trans (hW39.below hs_0)
  replace hs := Nat.le_trans hs (Nat.le_of_eq hW39.size.symm)
  replace o_x6 := zL o_x6 hW39 (zT o_x6 o_D0 (by simp))
  replace r_x6_0 := r_x6_0.wrote hW39 (r_x6_0.ne o_D0 (by simp))
  refine Lv_nil [.cell 6 29] [v_x6_0] rfl ⟨⟨⟨b4, 0, none⟩, by kernel_rfl, load_one (by kernel_rfl) (zM o_x6 rfl)⟩, trivial⟩ ?_
  have e51 : acc = (fewC am few) := by (rw [q1]; exact few_stop hpre q3 q2)
  exact ⟨v_x6_0, rfl, r_x6_0.cast e51, hb⟩
theorem c_toldW (b_t : Nat) (b_nm : Nat) (b_ln : Nat) (v_mm : Value) (b_wh : Nat) (few : Int) (v_wh : Value) (wh : List (Int × Int × Int)) (w : World) (o_t : w.heap[b_t]? = some (.cells [(.pointer (some ⟨b_nm, 0, none⟩)), (.pointer (some ⟨b_ln, 0, none⟩)), v_mm, (.pointer (some ⟨b_wh, 0, none⟩))].toArray 66 (0, 0))) (o_wh : w.heap[b_wh]? = some (.cells [v_wh, (.bool true)].toArray 115 (0, 0))) (p_wh : Rd w encSpanC v_wh wh) (hl : wh.length ≤ 1114112) :
  Calls Tryz.prog 11 #[(.pointer (some ⟨b_t, 0, none⟩)), (.bool true), (.int .i64 few)] w (Ret fun v w' => ∃ (q0 : Value), v = q0 ∧ Row w' w.heap.size 34 3 encSpanC q0 (fewC wh few) ∧ Below w.heap.size w w') := by
 refine K11 (enterM (args := [(.pointer (some ⟨b_t, 0, none⟩)), (.bool true), (.int .i64 few)]) Tryz.func11 rfl (by kernel_rfl : _ = 39)) ?_
 have hb := Below.refl w.heap.size w
 have hs : w.heap.size ≤ w.heap.size := Nat.le_refl _
 have in_p_wh := p_wh
 refine zF (zD (K21 (yW (fun b => .pointer (some ⟨b, 0, none⟩)) (.cells [(.int .i64 few)].toArray 3 (0, 0))) ?_))
 intro b1 w2 hN3
 have g_x5 : w.heap.size ≤ b1 := by rw [hN3.num]; exact hs
 replace hb := hb.trans (hN3.below.mono hs)
 replace hs := Nat.le_trans hs (hN3.below.size)
 replace o_t := zB o_t hN3.below
 replace o_wh := zB o_wh hN3.below
 replace p_wh := p_wh.below hN3.below
 have o_x5 := hN3.here
 refine K21 (yW (fun b => .pointer (some ⟨b, 0, none⟩)) (.cells [(.slice none 0 0)].toArray 29 (0, 0))) ?_
 intro b4 w5 hN6
 have g_x6 : w.heap.size ≤ b4 := by rw [hN6.num]; exact hs
 replace hb := hb.trans (hN6.below.mono hs)
 replace hs := Nat.le_trans hs (hN6.below.size)
 replace o_t := zB o_t hN6.below
 replace o_wh := zB o_wh hN6.below
 replace o_x5 := zB o_x5 hN6.below
 replace p_wh := p_wh.below hN6.below
 have o_x6 := hN6.here
 refine zE (zA (zF (zD (zI (K22 (yA 36 [(.pointer (some ⟨b_t, 0, none⟩))]) (c_tNamed b_t b_nm b_ln v_mm b_wh _ o_t) ?_)))))
 rintro _ w7 ⟨cb10, rfl, o_cb10, g_cb10, hB8⟩
 replace g_cb10 := Nat.le_trans hs g_cb10
 replace hb := hb.trans (hB8.mono hs)
 replace hs := Nat.le_trans hs (hB8.size)
 replace o_t := zB o_t hB8
 replace o_wh := zB o_wh hB8
 replace o_x5 := zB o_x5 hB8
 replace o_x6 := zB o_x6 hB8
 replace p_wh := p_wh.below hB8
 refine zJ (zE (zA (zF (zF (zD (zI (zE (zA (K11 zS (zD (zI (K22 (yA 37 [(.pointer (some ⟨b_t, 0, none⟩))]) (c_tWhole b_t b_nm b_ln v_mm b_wh _ o_t) ?_))))))))))))
 rintro _ w11 ⟨cb14, rfl, o_cb14, g_cb14, hB12⟩
 replace g_cb14 := Nat.le_trans hs g_cb14
 replace hb := hb.trans (hB12.mono hs)
 replace hs := Nat.le_trans hs (hB12.size)
 replace o_t := zB o_t hB12
 replace o_wh := zB o_wh hB12
 replace o_x5 := zB o_x5 hB12
 replace o_x6 := zB o_x6 hB12
 replace o_cb10 := zB o_cb10 hB12
 replace p_wh := p_wh.below hB12
 refine zJ (zE (zA (zF (zD (K21 (yW (fun b => .pointer (some ⟨b, 0, none⟩)) (.cells [(.slice none 0 0)].toArray 29 (0, 0))) ?_)))))
 intro b15 w16 hN17
 have ne_x6_x8 : NE b4 b15 := by have := (yR o_x6); have := hN17.num; show _ ≠ _; omega
 have g_x8 : w.heap.size ≤ b15 := by rw [hN17.num]; exact hs
 replace hb := hb.trans (hN17.below.mono hs)
 replace hs := Nat.le_trans hs (hN17.below.size)
 replace o_t := zB o_t hN17.below
 replace o_wh := zB o_wh hN17.below
 replace o_x5 := zB o_x5 hN17.below
 replace o_x6 := zB o_x6 hN17.below
 replace o_cb10 := zB o_cb10 hN17.below
 replace o_cb14 := zB o_cb14 hN17.below
 replace p_wh := p_wh.below hN17.below
 have o_x8 := hN17.here
 refine zE (zA (zF (zF (zD (zI (K21 (zQ (.bool false)) (zE (zA (K11 zN (zV (zA (zF (zF (zD (zI (zE (zA (yP ?_))))))))))))))))))
 have lt_t_0 : b_t < w16.heap.size := yR o_t
 have lt_wh_0 : b_wh < w16.heap.size := yR o_wh
 have lt_x5_0 : b1 < w16.heap.size := yR o_x5
 have lt_x6_0 : b4 < w16.heap.size := yR o_x6
 have lt_cb10_0 : cb10 < w16.heap.size := yR o_cb10
 have lt_cb14_0 : cb14 < w16.heap.size := yR o_cb14
 have lt_x8_0 : b15 < w16.heap.size := yR o_x8
 have hs_0 := hs
 have hb_0 := hb
 refine W_range 71 [(.pointer (some ⟨cb14, 0, none⟩))] wh (by kernel_rfl) (fun _ _ => rfl) (it_Whole cb14 b_t b_nm b_ln v_mm b_wh v_wh wh (by omega)) ⟨o_cb14, o_t, o_wh, p_wh⟩ ((fun D A B h hc hd => ⟨yG h.1 hc (fun h => Nat.not_lt.2 (hd _ h) lt_cb14_0), yG h.2.1 hc (fun h => Nat.not_lt.2 (hd _ h) lt_t_0), yG h.2.2.1 hc (fun h => Nat.not_lt.2 (hd _ h) lt_wh_0), Rd.ch p_wh (Nat.le_refl _) h.2.2.2 hc hd⟩)) (by intro x; rfl) (fun K pre A => ∃ (acc : List SpI) (v_x8_0 : Value), (A.heap[b_t]? = some (.cells [(.pointer (some ⟨b_nm, 0, none⟩)), (.pointer (some ⟨b_ln, 0, none⟩)), v_mm, (.pointer (some ⟨b_wh, 0, none⟩))].toArray 66 (0, 0))) ∧ (A.heap[b_wh]? = some (.cells [v_wh, (.bool true)].toArray 115 (0, 0))) ∧ (A.heap[b1]? = some (.cells [(.int .i64 few)].toArray 3 (0, 0))) ∧ (A.heap[b4]? = some (.cells [(.slice none 0 0)].toArray 29 (0, 0))) ∧ (A.heap[cb10]? = some (.cells [(.pointer (some ⟨b_t, 0, none⟩))].toArray 23 (0, 0))) ∧ (A.heap[cb14]? = some (.cells [(.pointer (some ⟨b_t, 0, none⟩))].toArray 23 (0, 0))) ∧ (A.heap[b15]? = some (.cells [v_x8_0].toArray 29 (0, 0))) ∧ (Row A w.heap.size 34 3 encSpanC v_x8_0 acc) ∧ (∀ g, Value.ownBlock v_x8_0 = some g → ¬ Iv w16.heap.size K g) ∧ (Below w.heap.size w A) ∧ (acc = pre) ∧ (few < 0 ∨ (pre.length : Int) ≤ few)) (fun K c pre A => (∃ (acc : List SpI) (v_x6_0 : Value), (c = .ret) ∧ (A.heap[b_t]? = some (.cells [(.pointer (some ⟨b_nm, 0, none⟩)), (.pointer (some ⟨b_ln, 0, none⟩)), v_mm, (.pointer (some ⟨b_wh, 0, none⟩))].toArray 66 (0, 0))) ∧ (A.heap[b_wh]? = some (.cells [v_wh, (.bool true)].toArray 115 (0, 0))) ∧ (A.heap[b1]? = some (.cells [(.int .i64 few)].toArray 3 (0, 0))) ∧ (A.heap[b4]? = some (.cells [v_x6_0].toArray 29 (0, 0))) ∧ (A.heap[cb10]? = some (.cells [(.pointer (some ⟨b_t, 0, none⟩))].toArray 23 (0, 0))) ∧ (A.heap[cb14]? = some (.cells [(.pointer (some ⟨b_t, 0, none⟩))].toArray 23 (0, 0))) ∧ (Row A w.heap.size 34 3 encSpanC v_x6_0 acc) ∧ (∀ g, Value.ownBlock v_x6_0 = some g → ¬ Iv w16.heap.size K g) ∧ (Below w.heap.size w A) ∧ (acc = pre) ∧ ((pre.length : Int) = few + 1) ∧ (0 ≤ few))) ?_ ?_ ?_ ?_ ?_ ?_
 ·intro A hA
  exact ⟨[], (.slice none 0 0), zB o_t hA, zB o_wh hA, zB o_x5 hA, zB o_x6 hA, zB o_cb10 hA, zB o_cb14 hA, zB o_x8 hA, Row.nil _ _ _ _ _, nr_nil _ _, hb.trans (hA.mono hs), by rfl, by (simp only [List.length_nil]; omega)⟩
 ·rintro K pre A B ⟨acc, v_x8_0, o_t, o_wh, o_x5, o_x6, o_cb10, o_cb14, o_x8, r_x8_0, nr_r_x8_0, hb, p1, p2⟩ hc
  exact ⟨acc, v_x8_0, yG o_t hc (fun h => Nat.not_lt.2 h.1 lt_t_0), yG o_wh hc (fun h => Nat.not_lt.2 h.1 lt_wh_0), yG o_x5 hc (fun h => Nat.not_lt.2 h.1 lt_x5_0), yG o_x6 hc (fun h => Nat.not_lt.2 h.1 lt_x6_0), yG o_cb10 hc (fun h => Nat.not_lt.2 h.1 lt_cb10_0), yG o_cb14 hc (fun h => Nat.not_lt.2 h.1 lt_cb14_0), yG o_x8 hc (fun h => Nat.not_lt.2 h.1 lt_x8_0), r_x8_0.ch hc nr_r_x8_0, nr_r_x8_0, hc.below hb hb.size (fun k h => Nat.le_trans hs_0 h.1), p1, p2⟩
 ·rintro K c pre A B (⟨acc, v_x6_0, hcc, o_t, o_wh, o_x5, o_x6, o_cb10, o_cb14, r_x6_0, nr_r_x6_0, hb, q1, q2, q3⟩) hc
  exact ⟨acc, v_x6_0, hcc, yG o_t hc (fun h => Nat.not_lt.2 h.1 lt_t_0), yG o_wh hc (fun h => Nat.not_lt.2 h.1 lt_wh_0), yG o_x5 hc (fun h => Nat.not_lt.2 h.1 lt_x5_0), yG o_x6 hc (fun h => Nat.not_lt.2 h.1 lt_x6_0), yG o_cb10 hc (fun h => Nat.not_lt.2 h.1 lt_cb10_0), yG o_cb14 hc (fun h => Nat.not_lt.2 h.1 lt_cb14_0), r_x6_0.ch hc nr_r_x6_0, nr_r_x6_0, hc.below hb hb.size (fun k h => Nat.le_trans hs_0 h.1), q1, q2, q3⟩
 ·intro l K pre x A hi hN hK0 hK hpre
  obtain ⟨acc, v_x8_0, o_t, o_wh, o_x5, o_x6, o_cb10, o_cb14, o_x8, r_x8_0, nr_r_x8_0, hb, p1, p2⟩ := hi
  have hs := hb.size
  have hk := Kp.refl (w16.heap.size) K A
  have nv_t : ¬ Iv (w16.heap.size) K b_t := fun h => Nat.not_lt.2 h.1 lt_t_0
  have nv_wh : ¬ Iv (w16.heap.size) K b_wh := fun h => Nat.not_lt.2 h.1 lt_wh_0
  have nv_x5 : ¬ Iv (w16.heap.size) K b1 := fun h => Nat.not_lt.2 h.1 lt_x5_0
  have nv_x6 : ¬ Iv (w16.heap.size) K b4 := fun h => Nat.not_lt.2 h.1 lt_x6_0
  have nv_cb10 : ¬ Iv (w16.heap.size) K cb10 := fun h => Nat.not_lt.2 h.1 lt_cb10_0
  have nv_cb14 : ¬ Iv (w16.heap.size) K cb14 := fun h => Nat.not_lt.2 h.1 lt_cb14_0
  have nv_x8 : ¬ Iv (w16.heap.size) K b15 := fun h => Nat.not_lt.2 h.1 lt_x8_0
  have p_wh := in_p_wh.below hb
  replace o_cb14 := hN.1
  replace o_t := hN.2.1
  replace o_wh := hN.2.2.1
  have hlt := tk_lt hpre
  have hal : acc.length = pre.length := by rw [p1]
  refine zF (zD (K21 (yW (fun b => .pointer (some ⟨b, 0, none⟩)) (.cells [(.int .i32 0), (.int .i32 0)].toArray 32 (0, 0))) ?_))
  intro b18 w19 hN20
  have g_x9 : w.heap.size ≤ b18 := by rw [hN20.num]; exact hs
  have nv_x9 : ¬ Iv w16.heap.size K b18 := fun h => by have := h.2; have := hN20.num; omega
  replace hb := hb.trans (hN20.below.mono hs)
  replace hk := hk.ch (Ch.of_below hN20.below) hK (fun _ h => h.elim)
  replace hK := Nat.le_trans hK (hN20.below.size)
  replace hs := Nat.le_trans hs (hN20.below.size)
  replace o_t := zB o_t hN20.below
  replace o_wh := zB o_wh hN20.below
  replace o_x5 := zB o_x5 hN20.below
  replace o_x6 := zB o_x6 hN20.below
  replace o_cb10 := zB o_cb10 hN20.below
  replace o_cb14 := zB o_cb14 hN20.below
  replace o_x8 := zB o_x8 hN20.below
  replace p_wh := p_wh.below hN20.below
  replace r_x8_0 := r_x8_0.below hN20.below
  have o_x9 := hN20.here
  refine K26 (yX b18 0 [(.int .i32 x.1), (.int .i32 x.2.1)] [(.int .i32 0), (.int .i32 0)] [(.int .i32 x.1), (.int .i32 x.2.1)] 32) rfl (by kernel_rfl) o_x9 (by kernel_rfl) rfl ?_
  intro w21 hW22
  replace hb := hb.trans (hW22.below g_x9)
  replace hk := hk.ch (Ch.of_wrote hW22) hK (fun k e h => nv_x9 (e ▸ h))
  replace hK := Nat.le_trans hK (Nat.le_of_eq hW22.size.symm)
  replace hs := Nat.le_trans hs (Nat.le_of_eq hW22.size.symm)
  replace o_t := zL o_t hW22 (zT o_t o_x9 (by simp))
  replace o_wh := zL o_wh hW22 (zT o_wh o_x9 (by simp))
  replace o_x5 := zL o_x5 hW22 (zT o_x5 o_x9 (by simp))
  replace o_x6 := zL o_x6 hW22 (zT o_x6 o_x9 (by simp))
  replace o_cb10 := zL o_cb10 hW22 (zT o_cb10 o_x9 (by simp))
  replace o_cb14 := zL o_cb14 hW22 (zT o_cb14 o_x9 (by simp))
  replace o_x8 := zL o_x8 hW22 (zT o_x8 o_x9 (by simp))
  replace p_wh := in_p_wh.below hb
  replace r_x8_0 := r_x8_0.wrote hW22 (r_x8_0.ne o_x9 (by simp))
  replace o_x9 := hW22.here
  refine zE (zA (zD (zJ (zE ?_))))
  refine zA ⟨hk, ?_⟩
  intro w23 hc24
  replace o_t := yG o_t hc24 nv_t
  replace o_wh := yG o_wh hc24 nv_wh
  replace o_x5 := yG o_x5 hc24 nv_x5
  replace o_x6 := yG o_x6 hc24 nv_x6
  replace o_cb10 := yG o_cb10 hc24 nv_cb10
  replace o_cb14 := yG o_cb14 hc24 nv_cb14
  replace o_x8 := yG o_x8 hc24 nv_x8
  replace o_x9 := yG o_x9 hc24 nv_x9
  replace r_x8_0 := r_x8_0.ch hc24 nr_r_x8_0
  replace hb := hc24.below hb hs (fun k h => Nat.le_trans hs_0 h.1)
  replace p_wh := in_p_wh.below hb
  replace hs := hb.size
  replace hK := Nat.le_trans hK hc24.size
  replace hk := Kp.refl (w16.heap.size) K w23
  refine yP (zF (zD (K22 (zZ b15 0 v_x8_0) (zM o_x8 rfl) (K32 (yH b18 0 [(.int .i32 x.1), (.int .i32 x.2.1)]) (K10 (yN o_x9 0)) (zI (K21 (zQ (Value.agg #[(.int .i32 x.1), (.int .i32 x.2.1), (.int .u8 x.2.2)])) (K21 (L_app el29 w.heap.size v_x8_0 acc (x.1, x.2.1, x.2.2) hs r_x8_0 (by omega) (by kernel_rfl) rfl rfl (by kernel_rfl) rfl) ?_)))))))
  intro v25 w26 hr27 hg28 how29
  have nr2 := nr_app how29 nr_r_x8_0 hK
  replace hb := hb.grown hg28 hs (fun k hk => (World.ownsRow.lt r_x8_0 k hk).1)
  replace hk := hk.ch (Ch.of_grown hg28) hK (fun k e => nr_r_x8_0 k e)
  replace hK := Nat.le_trans hK (hg28.size)
  replace hs := Nat.le_trans hs (hg28.size)
  replace o_t := yF o_t hg28 (r_x8_0.ne o_t (by simp))
  replace o_wh := yF o_wh hg28 (r_x8_0.ne o_wh (by simp))
  replace o_x5 := yF o_x5 hg28 (r_x8_0.ne o_x5 (by simp))
  replace o_x6 := yF o_x6 hg28 (r_x8_0.ne o_x6 (by simp))
  replace o_cb10 := yF o_cb10 hg28 (r_x8_0.ne o_cb10 (by simp))
  replace o_cb14 := yF o_cb14 hg28 (r_x8_0.ne o_cb14 (by simp))
  replace o_x8 := yF o_x8 hg28 (r_x8_0.ne o_x8 (by simp))
  replace p_wh := in_p_wh.below hb
  replace r_x8_0 := hr27
  have nr_r_x8_0 := nr2; clear nr2
  refine K26 (xC b15 0 v25 [v_x8_0] [v25] 29) r_x8_0.one (by kernel_rfl) o_x8 (by simp) rfl ?_
  intro w30 hW31
  replace hb := hb.trans (hW31.below g_x8)
  replace hk := hk.ch (Ch.of_wrote hW31) hK (fun k e h => nv_x8 (e ▸ h))
  replace hK := Nat.le_trans hK (Nat.le_of_eq hW31.size.symm)
  replace hs := Nat.le_trans hs (Nat.le_of_eq hW31.size.symm)
  replace o_t := zL o_t hW31 (zT o_t o_x8 (by simp))
  replace o_wh := zL o_wh hW31 (zT o_wh o_x8 (by simp))
  replace o_x5 := zL o_x5 hW31 (zT o_x5 o_x8 (by simp))
  replace o_x6 := zL o_x6 hW31 ne_x6_x8
  replace o_cb10 := zL o_cb10 hW31 (zT o_cb10 o_x8 (by simp))
  replace o_cb14 := zL o_cb14 hW31 (zT o_cb14 o_x8 (by simp))
  replace p_wh := in_p_wh.below hb
  replace r_x8_0 := r_x8_0.wrote hW31 (r_x8_0.ne o_x8 (by simp))
  replace o_x8 := hW31.here
  refine zE (zA (zF (zD (K22 (zZ b1 0 (.int .i64 few)) (zM o_x5 rfl) (K22 (yD .i64 few 0 (0 ≤ few) rfl (cmp_ge few 0)) ?_ ?_)))))
  ·intro h32
   replace h32 : 0 ≤ few := by omega
   refine zI (K11 zY (K22 (zZ b15 0 v25) (zM o_x8 rfl) (K11 zY (K11 (L_len 29 34 ((acc ++ [(x.1, x.2.1, x.2.2)])).length v25 rfl Tryz.underlying29 (r_x8_0.rd).len) (K11 zY (K22 (zZ b1 0 (.int .i64 few)) (zM o_x5 rfl) (K11 zY (K22 (yD .i64 ((((acc ++ [(x.1, x.2.1, x.2.2)])).length : Nat) : Int) few (few < ((((acc ++ [(x.1, x.2.1, x.2.2)])).length : Nat) : Int)) rfl (cmp_gt ((((acc ++ [(x.1, x.2.1, x.2.2)])).length : Nat) : Int) few)) ?_ ?_))))))))
   ·intro h33
    replace h33 : few < ((((acc ++ [(x.1, x.2.1, x.2.2)])).length : Nat) : Int) := by omega
    refine K11 yU (zE (zA (K11 zS (zF (zD (K22 (zZ b15 0 v25) (zM o_x8 rfl) (K26 (xC b4 0 v25 [(.slice none 0 0)] [v25] 29) r_x8_0.one (by kernel_rfl) o_x6 (by simp) rfl ?_)))))))
    intro w34 hW35
    replace hb := hb.trans (hW35.below g_x6)
    replace hk := hk.ch (Ch.of_wrote hW35) hK (fun k e h => nv_x6 (e ▸ h))
    replace hK := Nat.le_trans hK (Nat.le_of_eq hW35.size.symm)
    replace hs := Nat.le_trans hs (Nat.le_of_eq hW35.size.symm)
    replace o_t := zL o_t hW35 (zT o_t o_x6 (by simp))
    replace o_wh := zL o_wh hW35 (zT o_wh o_x6 (by simp))
    replace o_x5 := zL o_x5 hW35 (zT o_x5 o_x6 (by simp))
    replace o_cb10 := zL o_cb10 hW35 (zT o_cb10 o_x6 (by simp))
    replace o_cb14 := zL o_cb14 hW35 (zT o_cb14 o_x6 (by simp))
    replace r_x8_0 := r_x8_0.wrote hW35 (r_x8_0.ne o_x6 (by simp))
    replace o_x6 := hW35.here
    refine zE (zA (zX (zU ?_)))
    refine round_ret hk (⟨(acc ++ [(x.1, x.2.1, x.2.2)]), v25, rfl, o_t, o_wh, o_x5, o_x6, o_cb10, o_cb14, r_x8_0, nr_r_x8_0, hb, ?_, ?_, ?_⟩)
    ·rw [p1]
    ·have hx : (acc ++ [(x.1, x.2.1, x.2.2)]).length = pre.length + 1 := (by simp [p1]); simp only [List.length_append, List.length_cons, List.length_nil] at *; omega
    ·omega
   ·intro h36
    replace h36 : ((((acc ++ [(x.1, x.2.1, x.2.2)])).length : Nat) : Int) ≤ few := by omega
    refine K11 yU (zE (zA (K11 zN (zV (zP ?_)))))
    refine round_normal hk ⟨o_cb14, o_t, o_wh, p_wh⟩ ⟨(acc ++ [(x.1, x.2.1, x.2.2)]), v25, o_t, o_wh, o_x5, o_x6, o_cb10, o_cb14, o_x8, r_x8_0, nr_r_x8_0, hb, ?_, ?_⟩
    ·rw [p1]
    ·have hx : (acc ++ [(x.1, x.2.1, x.2.2)]).length = pre.length + 1 := (by simp [p1]); rw [List.length_append]; simp only [List.length_cons, List.length_nil]; omega
  ·intro h37
   replace h37 : few < 0 := by omega
   refine zI (K11 yC (K11 yC (K11 yC (K11 yC (K11 yV (zE (zA (K11 zN (zV (zP ?_))))))))))
   refine round_normal hk ⟨o_cb14, o_t, o_wh, p_wh⟩ ⟨(acc ++ [(x.1, x.2.1, x.2.2)]), v25, o_t, o_wh, o_x5, o_x6, o_cb10, o_cb14, o_x8, r_x8_0, nr_r_x8_0, hb, ?_, ?_⟩
   ·rw [p1]
   ·have hx : (acc ++ [(x.1, x.2.1, x.2.2)]).length = pre.length + 1 := (by simp [p1]); rw [List.length_append]; simp only [List.length_cons, List.length_nil]; omega
 ·intro K A hi hsz o_D0
  obtain ⟨acc, v_x8_0, o_t, o_wh, o_x5, o_x6, o_cb10, o_cb14, o_x8, r_x8_0, nr_r_x8_0, hb, p1, p2⟩ := hi
  have hs : w.heap.size ≤ _ := hb.size
  refine zP (zA (zF (zD (K22 (zZ b15 0 v_x8_0) (zM o_x8 rfl) (K26 (xC b4 0 v_x8_0 [(.slice none 0 0)] [v_x8_0] 29) r_x8_0.one (by kernel_rfl) o_x6 (by simp) rfl ?_)))))
  intro w38 hW39
  replace hb := hb.trans (hW39.below g_x6)
  replace hs := Nat.le_trans hs (Nat.le_of_eq hW39.size.symm)
  replace o_D0 := zL o_D0 hW39 (zT o_D0 o_x6 (by simp))
  replace r_x8_0 := r_x8_0.wrote hW39 (r_x8_0.ne o_x6 (by simp))
  replace o_x6 := hW39.here
  refine zE (zA (zX (K11 (end_retM (ds := [⟨.collected w16.heap.size, #[]⟩])) (Lv_mark o_D0 ?_))))
  intro w40 hW41
  replace hb := hb.trans (hW41.below hs_0)
  replace hs := Nat.le_trans hs (Nat.le_of_eq hW41.size.symm)
  replace o_x6 := zL o_x6 hW41 (zT o_x6 o_D0 (by simp))
  replace r_x8_0 := r_x8_0.wrote hW41 (r_x8_0.ne o_D0 (by simp))
  refine Lv_nil [.cell 6 29] [v_x8_0] rfl ⟨⟨⟨b4, 0, none⟩, by kernel_rfl, load_one (by kernel_rfl) (zM o_x6 rfl)⟩, trivial⟩ ?_
  have e51 : acc = (fewC wh few) := by (rw [p1]; exact few_all (by omega))
  exact ⟨v_x8_0, rfl, r_x8_0.cast e51, hb⟩
 ·intro K c pre0 x0 A hpre hx hsz o_D0
  obtain ⟨pre, hpreq⟩ : ∃ pre, pre = pre0 ++ [x0] := ⟨_, rfl⟩
  rw [← hpreq] at hpre; try rw [← hpreq] at hx
  rcases hx with ⟨acc, v_x6_0, rfl, o_t, o_wh, o_x5, o_x6, o_cb10, o_cb14, r_x6_0, nr_r_x6_0, hb, q1, q2, q3⟩
  have hs : w.heap.size ≤ _ := hb.size
  refine zX (zU (zH (K11 (end_retM (ds := [⟨.collected w16.heap.size, #[]⟩])) (Lv_mark o_D0 ?_))))
  intro w42 hW43
  replace hb := hb.trans (hW43.below hs_0)
  replace hs := Nat.le_trans hs (Nat.le_of_eq hW43.size.symm)
  replace o_x6 := zL o_x6 hW43 (zT o_x6 o_D0 (by simp))
  replace r_x6_0 := r_x6_0.wrote hW43 (r_x6_0.ne o_D0 (by simp))
  refine Lv_nil [.cell 6 29] [v_x6_0] rfl ⟨⟨⟨b4, 0, none⟩, by kernel_rfl, load_one (by kernel_rfl) (zM o_x6 rfl)⟩, trivial⟩ ?_
  have e51 : acc = (fewC wh few) := by (rw [q1]; exact few_stop hpre q3 q2)
  exact ⟨v_x6_0, rfl, r_x6_0.cast e51, hb⟩
theorem c_same7 (v_a : Value) (a : List (Int × Int × Int)) (v_l : Value) (l : List (Int × Int × Int)) (few : Int) (w : World) (p_a : Rd w encSpanC v_a a) (p_l : Rd w encSpanC v_l l) (ha : a.length ≤ 1073741824) (hl : l.length ≤ 1073741824) :
  Calls Tryz.prog 17 #[v_a, v_l, (.int .i64 few)] w (Ret fun v w' => v = (.bool (decide (a = fewC l few))) ∧ Below w.heap.size w w') := by
 refine K11 (enter (args := [v_a, v_l, (.int .i64 few)]) Tryz.func17 rfl (by kernel_rfl : _ = 39)) ?_
 have hb := Below.refl w.heap.size w
 have hs : w.heap.size ≤ w.heap.size := Nat.le_refl _
 have hfn := few_n l few
 refine zF (zD (zJ (zE (zA (zF (zD (zI (K11 (L_len 29 34 (l).length v_l rfl Tryz.underlying29 (p_l).len) (zJ (zE (zA (zF (zF (zD (zI (K22 (yD .i64 few 0 (0 ≤ few) rfl (cmp_ge few 0)) ?_ ?_))))))))))))))))
 ·intro h1
  replace h1 : 0 ≤ few := by omega
  refine zI (K11 zY (zI (K11 zY (zI (K11 zY (K22 (xS (((l).length : Nat) : Int) 1 ((((l).length : Nat) : Int) - 1) rfl) (xL _ (by simp only [arithZ]; omega) (by simp only [arithZ]; omega)) (K11 zY (K22 (yD .i64 few ((((l).length : Nat) : Int) - 1) (few < ((((l).length : Nat) : Int) - 1)) rfl (cmp_lt few ((((l).length : Nat) : Int) - 1))) ?_ ?_))))))))
  ·intro h2
   replace h2 : few < ((((l).length : Nat) : Int) - 1) := by omega
   refine K11 yU (zE (zA (K11 zS (zD (zI (K22 (xS few 1 (few + 1) rfl) (xL _ (by simp only [arithZ]; omega) (by simp only [arithZ]; omega)) (zJ (zE (zA (zF (zF (zD (zI (K11 (L_len 29 34 (a).length v_a rfl Tryz.underlying29 (p_a).len) (zI (K22 (yD .i64 (((a).length : Nat) : Int) (few + 1) ((((a).length : Nat) : Int) ≠ (few + 1)) rfl (cmp_ne (((a).length : Nat) : Int) (few + 1))) ?_ ?_))))))))))))))))
   ·intro h3
    replace h3 : (((a).length : Nat) : Int) ≠ (few + 1) := by omega
    refine zE (zA (K11 zS (zF (zD (zJ (zE (zA (zX (zH ?_)))))))))
    refine zO [.tmp 6] [(.bool false)] rfl rfl ⟨by kernel_rfl, trivial⟩ ?_
    have e0 : false = (decide (a = fewC l few)) := by exact (decide_eq_false (same_len (n := few + 1) (by rw [hfn, if_pos (by omega)]) (by omega))).symm
    exact ⟨congrArg Value.bool e0, hb⟩
   ·intro h4
    replace h4 : (((a).length : Nat) : Int) = (few + 1) := by omega
    refine zE (zA (K11 zN (zV (zA (zF (zF (zD (zJ (zE (zA (yP ?_)))))))))))
    refine W_loop (fun m s0 w0 => ∃ (i : Nat), (m = a.length - i) ∧ (s0.ds = []) ∧ (s0.f 0 = v_a) ∧ (s0.f 1 = v_l) ∧ (s0.f 7 = (.int .i64 (few + 1))) ∧ (s0.f 8 = (.int .i64 ((i : Nat) : Int))) ∧ (Rd w0 encSpanC v_a a) ∧ (Rd w0 encSpanC v_l l) ∧ (Below w.heap.size w w0) ∧ (w.heap.size ≤ w0.heap.size) ∧ ((i : Int) ≤ (few + 1)) ∧ ((a.length : Int) = (few + 1)) ∧ (((fewC l few).length : Int) = (few + 1)) ∧ (a.take i = (fewC l few).take i)) _ ⟨0, rfl, by kernel_rfl, by kernel_rfl, by kernel_rfl, by kernel_rfl, by kernel_rfl, p_a, p_l, hb, hs, (by omega), (by omega), (by (rw [hfn, if_pos (by omega)]; done)), rfl⟩ ?_
    rintro m5 s6 w7 ⟨i, hm, hds, f_0, f_1, f_7, f_8, p_a, p_l, hb, hs, i1, i2, i4, i3⟩
    refine yK 0 _ f_0 (yK 1 _ f_1 (yK 7 _ f_7 (yK 8 _ f_8 ?_)))
    clear f_0 f_1 f_7 f_8
    refine zF (zF (zD (zI (zI (K22 (yD .i64 ((i : Nat) : Int) (few + 1) (((i : Nat) : Int) < (few + 1)) rfl (cmp_lt ((i : Nat) : Int) (few + 1))) ?_ ?_)))))
    ·intro h8
     replace h8 : ((i : Nat) : Int) < (few + 1) := by omega
     refine zE (zA (K11 zS (zV (zA (zF (yP (zF (K31 (W_draws 9) ?_))))))))
     intro w9 hB10
     replace hb := hb.trans (hB10.mono hs)
     replace hs := Nat.le_trans hs (hB10.size)
     replace p_a := p_a.below hB10
     replace p_l := p_l.below hB10
     refine K44 (yE 0 v_a rfl) (zC (zG (zC (zC (zG (zC zR)))))) (by kernel_rfl) (fun _ => by kernel_rfl) ?_
     refine K44 (yE 1 (.int .i64 ((i : Nat) : Int)) rfl) (zC (zG (zC (zC (zG (zC zR)))))) (by kernel_rfl) (fun _ => by kernel_rfl) ?_
     refine K44 (yE 4 v_l rfl) (zC (zG (zC (zC (zG (zC zR)))))) (by kernel_rfl) (fun _ => by kernel_rfl) ?_
     refine K44 (yE 5 (.int .i64 ((i : Nat) : Int)) rfl) (zC (zG (zC (zC (zG (zC zR)))))) (by kernel_rfl) (fun _ => by kernel_rfl) ?_
     refine K12 (I_all2 2 6) ?_ ?_
     ·skip
      refine yZ 2 rfl ?_ rfl
      have hz := yT a i (by omega); obtain ⟨x11, hx12⟩ := hz
      have hz := (p_a).at (k := 3) (fun _ => rfl) hx12
      obtain ⟨g13, off14, hl15, hc16⟩ := hz
      refine K21 (xE (k := .i64) v_a i _ g13 off14 el29 hl15 (by omega)) (zE ?_)
      refine ⟨rfl, ?_⟩
      refine K12 (I_all2 3 6) ?_ ?_
      ·skip
       refine yZ 3 rfl ?_ rfl
       refine K32 (yH g13 (off14 + i * 3) [(.int .i32 x11.1), (.int .i32 x11.2.1), (.int .u8 x11.2.2)]) hc16 (zE ?_)
       refine ⟨rfl, ?_⟩
       refine K11 (yJ 6) ?_
       refine yZ 6 rfl ?_ rfl
       have hz := yT l i (by omega); obtain ⟨x17, hx18⟩ := hz
       have hz := (p_l).at (k := 3) (fun _ => rfl) hx18
       obtain ⟨g19, off20, hl21, hc22⟩ := hz
       refine K21 (xE (k := .i64) v_l i _ g19 off20 el29 hl21 (by omega)) (zE ?_)
       refine ⟨rfl, ?_⟩
       refine K11 (yJ 7) ?_
       refine yZ 7 rfl ?_ rfl
       refine K32 (yH g19 (off20 + i * 3) [(.int .i32 x17.1), (.int .i32 x17.2.1), (.int .u8 x17.2.2)]) hc22 (zE ?_)
       refine ⟨rfl, ?_⟩
       refine K11 (yJ 8) ?_
       refine yZ 8 rfl ?_ rfl
       refine K33 (L_aggne [(.int .i32 x11.1), (.int .i32 x11.2.1), (.int .u8 x11.2.2)] [(.int .i32 x17.1), (.int .i32 x17.2.1), (.int .u8 x17.2.2)] (x11.1 == x17.1 && x11.2.1 == x17.2.1 && x11.2.2 == x17.2.2)) (eqagg34 x11.1 x11.2.1 x11.2.2 x17.1 x17.2.1 x17.2.2) ?_ ?_
       ·intro h23
        refine zE ?_
        refine ⟨rfl, ?_⟩
        refine K11 yQ ?_
        refine zA (K11 zS (zF (zD (zJ (zE (zA (zX (zU (zH (zH (zU (zH ?_))))))))))))
        refine zO [.tmp 6] [(.bool false)] rfl hds ⟨by kernel_rfl, trivial⟩ ?_
        have e0 : false = (decide (a = fewC l few)) := by exact (decide_eq_false (same_no (i := i) i4 (by omega) (by assumption) (by assumption) (sp_ne (by assumption)))).symm
        exact ⟨congrArg Value.bool e0, hb⟩
       ·intro h24
        replace h24 : x11.1 = x17.1 ∧ x11.2.1 = x17.2.1 ∧ x11.2.2 = x17.2.2 := by simpa [and_assoc] using h24
        refine zE ?_
        refine ⟨rfl, ?_⟩
        refine K11 yQ ?_
        refine zA (K11 zN (zV (zP (zA (zD (zI (K21 (xD i 1 (by omega)) (zJ (zE ?_)))))))))
        refine zA ⟨_, ?_, (i + 1), rfl, hds, by kernel_rfl, by kernel_rfl, by kernel_rfl, by kernel_rfl, p_a, p_l, hb, hs, ?_, ?_, ?_, ?_⟩
        ·omega
        ·omega
        ·exact i2
        ·exact i4
        ·exact same_step (i := i) i4 i3 (by omega) (by assumption) (by assumption) (sp_eq (by assumption))
      ·skip
       refine yZ 6 rfl ?_ rfl
       have hz := yT l i (by omega); obtain ⟨x25, hx26⟩ := hz
       have hz := (p_l).at (k := 3) (fun _ => rfl) hx26
       obtain ⟨g27, off28, hl29, hc30⟩ := hz
       refine K21 (xE (k := .i64) v_l i _ g27 off28 el29 hl29 (by omega)) (zE ?_)
       refine ⟨rfl, ?_⟩
       refine K12 (I_all2 3 7) ?_ ?_
       ·skip
        refine yZ 3 rfl ?_ rfl
        refine K32 (yH g13 (off14 + i * 3) [(.int .i32 x11.1), (.int .i32 x11.2.1), (.int .u8 x11.2.2)]) hc16 (zE ?_)
        refine ⟨rfl, ?_⟩
        refine K11 (yJ 7) ?_
        refine yZ 7 rfl ?_ rfl
        refine K32 (yH g27 (off28 + i * 3) [(.int .i32 x25.1), (.int .i32 x25.2.1), (.int .u8 x25.2.2)]) hc30 (zE ?_)
        refine ⟨rfl, ?_⟩
        refine K11 (yJ 8) ?_
        refine yZ 8 rfl ?_ rfl
        refine K33 (L_aggne [(.int .i32 x11.1), (.int .i32 x11.2.1), (.int .u8 x11.2.2)] [(.int .i32 x25.1), (.int .i32 x25.2.1), (.int .u8 x25.2.2)] (x11.1 == x25.1 && x11.2.1 == x25.2.1 && x11.2.2 == x25.2.2)) (eqagg34 x11.1 x11.2.1 x11.2.2 x25.1 x25.2.1 x25.2.2) ?_ ?_
        ·intro h31
         refine zE ?_
         refine ⟨rfl, ?_⟩
         refine K11 yQ ?_
         refine zA (K11 zS (zF (zD (zJ (zE (zA (zX (zU (zH (zH (zU (zH ?_))))))))))))
         refine zO [.tmp 6] [(.bool false)] rfl hds ⟨by kernel_rfl, trivial⟩ ?_
         have e0 : false = (decide (a = fewC l few)) := by exact (decide_eq_false (same_no (i := i) i4 (by omega) (by assumption) (by assumption) (sp_ne (by assumption)))).symm
         exact ⟨congrArg Value.bool e0, hb⟩
        ·intro h32
         replace h32 : x11.1 = x25.1 ∧ x11.2.1 = x25.2.1 ∧ x11.2.2 = x25.2.2 := by simpa [and_assoc] using h32
         refine zE ?_
         refine ⟨rfl, ?_⟩
         refine K11 yQ ?_
         refine zA (K11 zN (zV (zP (zA (zD (zI (K21 (xD i 1 (by omega)) (zJ (zE ?_)))))))))
         refine zA ⟨_, ?_, (i + 1), rfl, hds, by kernel_rfl, by kernel_rfl, by kernel_rfl, by kernel_rfl, p_a, p_l, hb, hs, ?_, ?_, ?_, ?_⟩
         ·omega
         ·omega
         ·exact i2
         ·exact i4
         ·exact same_step (i := i) i4 i3 (by omega) (by assumption) (by assumption) (sp_eq (by assumption))
       ·skip
        refine yZ 7 rfl ?_ rfl
        refine K32 (yH g27 (off28 + i * 3) [(.int .i32 x25.1), (.int .i32 x25.2.1), (.int .u8 x25.2.2)]) hc30 (zE ?_)
        refine ⟨rfl, ?_⟩
        refine K11 (yJ 3) ?_
        refine yZ 3 rfl ?_ rfl
        refine K32 (yH g13 (off14 + i * 3) [(.int .i32 x11.1), (.int .i32 x11.2.1), (.int .u8 x11.2.2)]) hc16 (zE ?_)
        refine ⟨rfl, ?_⟩
        refine K11 (yJ 8) ?_
        refine yZ 8 rfl ?_ rfl
        refine K33 (L_aggne [(.int .i32 x11.1), (.int .i32 x11.2.1), (.int .u8 x11.2.2)] [(.int .i32 x25.1), (.int .i32 x25.2.1), (.int .u8 x25.2.2)] (x11.1 == x25.1 && x11.2.1 == x25.2.1 && x11.2.2 == x25.2.2)) (eqagg34 x11.1 x11.2.1 x11.2.2 x25.1 x25.2.1 x25.2.2) ?_ ?_
        ·intro h33
         refine zE ?_
         refine ⟨rfl, ?_⟩
         refine K11 yQ ?_
         refine zA (K11 zS (zF (zD (zJ (zE (zA (zX (zU (zH (zH (zU (zH ?_))))))))))))
         refine zO [.tmp 6] [(.bool false)] rfl hds ⟨by kernel_rfl, trivial⟩ ?_
         have e0 : false = (decide (a = fewC l few)) := by exact (decide_eq_false (same_no (i := i) i4 (by omega) (by assumption) (by assumption) (sp_ne (by assumption)))).symm
         exact ⟨congrArg Value.bool e0, hb⟩
        ·intro h34
         replace h34 : x11.1 = x25.1 ∧ x11.2.1 = x25.2.1 ∧ x11.2.2 = x25.2.2 := by simpa [and_assoc] using h34
         refine zE ?_
         refine ⟨rfl, ?_⟩
         refine K11 yQ ?_
         refine zA (K11 zN (zV (zP (zA (zD (zI (K21 (xD i 1 (by omega)) (zJ (zE ?_)))))))))
         refine zA ⟨_, ?_, (i + 1), rfl, hds, by kernel_rfl, by kernel_rfl, by kernel_rfl, by kernel_rfl, p_a, p_l, hb, hs, ?_, ?_, ?_, ?_⟩
         ·omega
         ·omega
         ·exact i2
         ·exact i4
         ·exact same_step (i := i) i4 i3 (by omega) (by assumption) (by assumption) (sp_eq (by assumption))
     ·skip
      refine yZ 6 rfl ?_ rfl
      have hz := yT l i (by omega); obtain ⟨x35, hx36⟩ := hz
      have hz := (p_l).at (k := 3) (fun _ => rfl) hx36
      obtain ⟨g37, off38, hl39, hc40⟩ := hz
      refine K21 (xE (k := .i64) v_l i _ g37 off38 el29 hl39 (by omega)) (zE ?_)
      refine ⟨rfl, ?_⟩
      refine K12 (I_all2 2 7) ?_ ?_
      ·skip
       refine yZ 2 rfl ?_ rfl
       have hz := yT a i (by omega); obtain ⟨x41, hx42⟩ := hz
       have hz := (p_a).at (k := 3) (fun _ => rfl) hx42
       obtain ⟨g43, off44, hl45, hc46⟩ := hz
       refine K21 (xE (k := .i64) v_a i _ g43 off44 el29 hl45 (by omega)) (zE ?_)
       refine ⟨rfl, ?_⟩
       refine K12 (I_all2 3 7) ?_ ?_
       ·skip
        refine yZ 3 rfl ?_ rfl
        refine K32 (yH g43 (off44 + i * 3) [(.int .i32 x41.1), (.int .i32 x41.2.1), (.int .u8 x41.2.2)]) hc46 (zE ?_)
        refine ⟨rfl, ?_⟩
        refine K11 (yJ 7) ?_
        refine yZ 7 rfl ?_ rfl
        refine K32 (yH g37 (off38 + i * 3) [(.int .i32 x35.1), (.int .i32 x35.2.1), (.int .u8 x35.2.2)]) hc40 (zE ?_)
        refine ⟨rfl, ?_⟩
        refine K11 (yJ 8) ?_
        refine yZ 8 rfl ?_ rfl
        refine K33 (L_aggne [(.int .i32 x41.1), (.int .i32 x41.2.1), (.int .u8 x41.2.2)] [(.int .i32 x35.1), (.int .i32 x35.2.1), (.int .u8 x35.2.2)] (x41.1 == x35.1 && x41.2.1 == x35.2.1 && x41.2.2 == x35.2.2)) (eqagg34 x41.1 x41.2.1 x41.2.2 x35.1 x35.2.1 x35.2.2) ?_ ?_
        ·intro h47
         refine zE ?_
         refine ⟨rfl, ?_⟩
         refine K11 yQ ?_
         refine zA (K11 zS (zF (zD (zJ (zE (zA (zX (zU (zH (zH (zU (zH ?_))))))))))))
         refine zO [.tmp 6] [(.bool false)] rfl hds ⟨by kernel_rfl, trivial⟩ ?_
         have e0 : false = (decide (a = fewC l few)) := by exact (decide_eq_false (same_no (i := i) i4 (by omega) (by assumption) (by assumption) (sp_ne (by assumption)))).symm
         exact ⟨congrArg Value.bool e0, hb⟩
        ·intro h48
         replace h48 : x41.1 = x35.1 ∧ x41.2.1 = x35.2.1 ∧ x41.2.2 = x35.2.2 := by simpa [and_assoc] using h48
         refine zE ?_
         refine ⟨rfl, ?_⟩
         refine K11 yQ ?_
         refine zA (K11 zN (zV (zP (zA (zD (zI (K21 (xD i 1 (by omega)) (zJ (zE ?_)))))))))
         refine zA ⟨_, ?_, (i + 1), rfl, hds, by kernel_rfl, by kernel_rfl, by kernel_rfl, by kernel_rfl, p_a, p_l, hb, hs, ?_, ?_, ?_, ?_⟩
         ·omega
         ·omega
         ·exact i2
         ·exact i4
         ·exact same_step (i := i) i4 i3 (by omega) (by assumption) (by assumption) (sp_eq (by assumption))
       ·skip
        refine yZ 7 rfl ?_ rfl
        refine K32 (yH g37 (off38 + i * 3) [(.int .i32 x35.1), (.int .i32 x35.2.1), (.int .u8 x35.2.2)]) hc40 (zE ?_)
        refine ⟨rfl, ?_⟩
        refine K11 (yJ 3) ?_
        refine yZ 3 rfl ?_ rfl
        refine K32 (yH g43 (off44 + i * 3) [(.int .i32 x41.1), (.int .i32 x41.2.1), (.int .u8 x41.2.2)]) hc46 (zE ?_)
        refine ⟨rfl, ?_⟩
        refine K11 (yJ 8) ?_
        refine yZ 8 rfl ?_ rfl
        refine K33 (L_aggne [(.int .i32 x41.1), (.int .i32 x41.2.1), (.int .u8 x41.2.2)] [(.int .i32 x35.1), (.int .i32 x35.2.1), (.int .u8 x35.2.2)] (x41.1 == x35.1 && x41.2.1 == x35.2.1 && x41.2.2 == x35.2.2)) (eqagg34 x41.1 x41.2.1 x41.2.2 x35.1 x35.2.1 x35.2.2) ?_ ?_
        ·intro h49
         refine zE ?_
         refine ⟨rfl, ?_⟩
         refine K11 yQ ?_
         refine zA (K11 zS (zF (zD (zJ (zE (zA (zX (zU (zH (zH (zU (zH ?_))))))))))))
         refine zO [.tmp 6] [(.bool false)] rfl hds ⟨by kernel_rfl, trivial⟩ ?_
         have e0 : false = (decide (a = fewC l few)) := by exact (decide_eq_false (same_no (i := i) i4 (by omega) (by assumption) (by assumption) (sp_ne (by assumption)))).symm
         exact ⟨congrArg Value.bool e0, hb⟩
        ·intro h50
         replace h50 : x41.1 = x35.1 ∧ x41.2.1 = x35.2.1 ∧ x41.2.2 = x35.2.2 := by simpa [and_assoc] using h50
         refine zE ?_
         refine ⟨rfl, ?_⟩
         refine K11 yQ ?_
         refine zA (K11 zN (zV (zP (zA (zD (zI (K21 (xD i 1 (by omega)) (zJ (zE ?_)))))))))
         refine zA ⟨_, ?_, (i + 1), rfl, hds, by kernel_rfl, by kernel_rfl, by kernel_rfl, by kernel_rfl, p_a, p_l, hb, hs, ?_, ?_, ?_, ?_⟩
         ·omega
         ·omega
         ·exact i2
         ·exact i4
         ·exact same_step (i := i) i4 i3 (by omega) (by assumption) (by assumption) (sp_eq (by assumption))
      ·skip
       refine yZ 7 rfl ?_ rfl
       refine K32 (yH g37 (off38 + i * 3) [(.int .i32 x35.1), (.int .i32 x35.2.1), (.int .u8 x35.2.2)]) hc40 (zE ?_)
       refine ⟨rfl, ?_⟩
       refine K11 (yJ 2) ?_
       refine yZ 2 rfl ?_ rfl
       have hz := yT a i (by omega); obtain ⟨x51, hx52⟩ := hz
       have hz := (p_a).at (k := 3) (fun _ => rfl) hx52
       obtain ⟨g53, off54, hl55, hc56⟩ := hz
       refine K21 (xE (k := .i64) v_a i _ g53 off54 el29 hl55 (by omega)) (zE ?_)
       refine ⟨rfl, ?_⟩
       refine K11 (yJ 3) ?_
       refine yZ 3 rfl ?_ rfl
       refine K32 (yH g53 (off54 + i * 3) [(.int .i32 x51.1), (.int .i32 x51.2.1), (.int .u8 x51.2.2)]) hc56 (zE ?_)
       refine ⟨rfl, ?_⟩
       refine K11 (yJ 8) ?_
       refine yZ 8 rfl ?_ rfl
       refine K33 (L_aggne [(.int .i32 x51.1), (.int .i32 x51.2.1), (.int .u8 x51.2.2)] [(.int .i32 x35.1), (.int .i32 x35.2.1), (.int .u8 x35.2.2)] (x51.1 == x35.1 && x51.2.1 == x35.2.1 && x51.2.2 == x35.2.2)) (eqagg34 x51.1 x51.2.1 x51.2.2 x35.1 x35.2.1 x35.2.2) ?_ ?_
       ·intro h57
        refine zE ?_
        refine ⟨rfl, ?_⟩
        refine K11 yQ ?_
        refine zA (K11 zS (zF (zD (zJ (zE (zA (zX (zU (zH (zH (zU (zH ?_))))))))))))
        refine zO [.tmp 6] [(.bool false)] rfl hds ⟨by kernel_rfl, trivial⟩ ?_
        have e0 : false = (decide (a = fewC l few)) := by exact (decide_eq_false (same_no (i := i) i4 (by omega) (by assumption) (by assumption) (sp_ne (by assumption)))).symm
        exact ⟨congrArg Value.bool e0, hb⟩
       ·intro h58
        replace h58 : x51.1 = x35.1 ∧ x51.2.1 = x35.2.1 ∧ x51.2.2 = x35.2.2 := by simpa [and_assoc] using h58
        refine zE ?_
        refine ⟨rfl, ?_⟩
        refine K11 yQ ?_
        refine zA (K11 zN (zV (zP (zA (zD (zI (K21 (xD i 1 (by omega)) (zJ (zE ?_)))))))))
        refine zA ⟨_, ?_, (i + 1), rfl, hds, by kernel_rfl, by kernel_rfl, by kernel_rfl, by kernel_rfl, p_a, p_l, hb, hs, ?_, ?_, ?_, ?_⟩
        ·omega
        ·omega
        ·exact i2
        ·exact i4
        ·exact same_step (i := i) i4 i3 (by omega) (by assumption) (by assumption) (sp_eq (by assumption))
    ·intro h59
     replace h59 : (few + 1) ≤ ((i : Nat) : Int) := by omega
     refine zE (zA (K11 zN (W_exit (yM (yM (xM (zA (zF (zD (zJ (zE (zA (zX ?_)))))))))))))
     refine zO [.tmp 6] [(.bool true)] rfl hds ⟨by kernel_rfl, trivial⟩ ?_
     have e0 : true = (decide (a = fewC l few)) := by exact (decide_eq_true (same_end i4 i3 i2 (by omega))).symm
     exact ⟨congrArg Value.bool e0, hb⟩
  ·intro h60
   replace h60 : ((((l).length : Nat) : Int) - 1) ≤ few := by omega
   refine K11 yU (zE (zA (K11 zN (zV (zA (zF (zF (zD (zI (K11 (L_len 29 34 (a).length v_a rfl Tryz.underlying29 (p_a).len) (zI (K22 (yD .i64 (((a).length : Nat) : Int) (((l).length : Nat) : Int) ((a).length ≠ (l).length) rfl (cmpN_ne ((a).length) ((l).length))) ?_ ?_))))))))))))
   ·intro h61
    replace h61 : (a).length ≠ (l).length := by omega
    refine zE (zA (K11 zS (zF (zD (zJ (zE (zA (zX (zH ?_)))))))))
    refine zO [.tmp 6] [(.bool false)] rfl rfl ⟨by kernel_rfl, trivial⟩ ?_
    have e0 : false = (decide (a = fewC l few)) := by exact (decide_eq_false (same_len (n := l.length) (by rw [hfn, if_neg (by omega)]) (by omega))).symm
    exact ⟨congrArg Value.bool e0, hb⟩
   ·intro h62
    replace h62 : (a).length = (l).length := by omega
    refine zE (zA (K11 zN (zV (zA (zF (zF (zD (zJ (zE (zA (yP ?_)))))))))))
    refine W_loop (fun m s0 w0 => ∃ (i : Nat), (m = a.length - i) ∧ (s0.ds = []) ∧ (s0.f 0 = v_a) ∧ (s0.f 1 = v_l) ∧ (s0.f 7 = (.int .i64 (((l).length : Nat) : Int))) ∧ (s0.f 8 = (.int .i64 ((i : Nat) : Int))) ∧ (Rd w0 encSpanC v_a a) ∧ (Rd w0 encSpanC v_l l) ∧ (Below w.heap.size w w0) ∧ (w.heap.size ≤ w0.heap.size) ∧ ((i : Int) ≤ (((l).length : Nat) : Int)) ∧ ((a.length : Int) = (((l).length : Nat) : Int)) ∧ (((fewC l few).length : Int) = (((l).length : Nat) : Int)) ∧ (a.take i = (fewC l few).take i)) _ ⟨0, rfl, by kernel_rfl, by kernel_rfl, by kernel_rfl, by kernel_rfl, by kernel_rfl, p_a, p_l, hb, hs, (by omega), (by omega), (by (rw [hfn, if_neg (by omega)]; done)), rfl⟩ ?_
    rintro m63 s64 w65 ⟨i, hm, hds, f_0, f_1, f_7, f_8, p_a, p_l, hb, hs, i1, i2, i4, i3⟩
    refine yK 0 _ f_0 (yK 1 _ f_1 (yK 7 _ f_7 (yK 8 _ f_8 ?_)))
    clear f_0 f_1 f_7 f_8
    refine zF (zF (zD (zI (zI (K22 (yD .i64 ((i : Nat) : Int) (((l).length : Nat) : Int) (i < (l).length) rfl (cmpN_lt i ((l).length))) ?_ ?_)))))
    ·intro h66
     replace h66 : i < (l).length := by omega
     refine zE (zA (K11 zS (zV (zA (zF (yP (zF (K31 (W_draws 9) ?_))))))))
     intro w67 hB68
     replace hb := hb.trans (hB68.mono hs)
     replace hs := Nat.le_trans hs (hB68.size)
     replace p_a := p_a.below hB68
     replace p_l := p_l.below hB68
     refine K44 (yE 0 v_a rfl) (zC (zG (zC (zC (zG (zC zR)))))) (by kernel_rfl) (fun _ => by kernel_rfl) ?_
     refine K44 (yE 1 (.int .i64 ((i : Nat) : Int)) rfl) (zC (zG (zC (zC (zG (zC zR)))))) (by kernel_rfl) (fun _ => by kernel_rfl) ?_
     refine K44 (yE 4 v_l rfl) (zC (zG (zC (zC (zG (zC zR)))))) (by kernel_rfl) (fun _ => by kernel_rfl) ?_
     refine K44 (yE 5 (.int .i64 ((i : Nat) : Int)) rfl) (zC (zG (zC (zC (zG (zC zR)))))) (by kernel_rfl) (fun _ => by kernel_rfl) ?_
     refine K12 (I_all2 2 6) ?_ ?_
     ·skip
      refine yZ 2 rfl ?_ rfl
      have hz := yT a i (by omega); obtain ⟨x69, hx70⟩ := hz
      have hz := (p_a).at (k := 3) (fun _ => rfl) hx70
      obtain ⟨g71, off72, hl73, hc74⟩ := hz
      refine K21 (xE (k := .i64) v_a i _ g71 off72 el29 hl73 (by omega)) (zE ?_)
      refine ⟨rfl, ?_⟩
      refine K12 (I_all2 3 6) ?_ ?_
      ·skip
       refine yZ 3 rfl ?_ rfl
       refine K32 (yH g71 (off72 + i * 3) [(.int .i32 x69.1), (.int .i32 x69.2.1), (.int .u8 x69.2.2)]) hc74 (zE ?_)
       refine ⟨rfl, ?_⟩
       refine K11 (yJ 6) ?_
       refine yZ 6 rfl ?_ rfl
       have hz := yT l i (by omega); obtain ⟨x75, hx76⟩ := hz
       have hz := (p_l).at (k := 3) (fun _ => rfl) hx76
       obtain ⟨g77, off78, hl79, hc80⟩ := hz
       refine K21 (xE (k := .i64) v_l i _ g77 off78 el29 hl79 (by omega)) (zE ?_)
       refine ⟨rfl, ?_⟩
       refine K11 (yJ 7) ?_
       refine yZ 7 rfl ?_ rfl
       refine K32 (yH g77 (off78 + i * 3) [(.int .i32 x75.1), (.int .i32 x75.2.1), (.int .u8 x75.2.2)]) hc80 (zE ?_)
       refine ⟨rfl, ?_⟩
       refine K11 (yJ 8) ?_
       refine yZ 8 rfl ?_ rfl
       refine K33 (L_aggne [(.int .i32 x69.1), (.int .i32 x69.2.1), (.int .u8 x69.2.2)] [(.int .i32 x75.1), (.int .i32 x75.2.1), (.int .u8 x75.2.2)] (x69.1 == x75.1 && x69.2.1 == x75.2.1 && x69.2.2 == x75.2.2)) (eqagg34 x69.1 x69.2.1 x69.2.2 x75.1 x75.2.1 x75.2.2) ?_ ?_
       ·intro h81
        refine zE ?_
        refine ⟨rfl, ?_⟩
        refine K11 yQ ?_
        refine zA (K11 zS (zF (zD (zJ (zE (zA (zX (zU (zH (zH (zU (zH ?_))))))))))))
        refine zO [.tmp 6] [(.bool false)] rfl hds ⟨by kernel_rfl, trivial⟩ ?_
        have e0 : false = (decide (a = fewC l few)) := by exact (decide_eq_false (same_no (i := i) i4 (by omega) (by assumption) (by assumption) (sp_ne (by assumption)))).symm
        exact ⟨congrArg Value.bool e0, hb⟩
       ·intro h82
        replace h82 : x69.1 = x75.1 ∧ x69.2.1 = x75.2.1 ∧ x69.2.2 = x75.2.2 := by simpa [and_assoc] using h82
        refine zE ?_
        refine ⟨rfl, ?_⟩
        refine K11 yQ ?_
        refine zA (K11 zN (zV (zP (zA (zD (zI (K21 (xD i 1 (by omega)) (zJ (zE ?_)))))))))
        refine zA ⟨_, ?_, (i + 1), rfl, hds, by kernel_rfl, by kernel_rfl, by kernel_rfl, by kernel_rfl, p_a, p_l, hb, hs, ?_, ?_, ?_, ?_⟩
        ·omega
        ·omega
        ·exact i2
        ·exact i4
        ·exact same_step (i := i) i4 i3 (by omega) (by assumption) (by assumption) (sp_eq (by assumption))
      ·skip
       refine yZ 6 rfl ?_ rfl
       have hz := yT l i (by omega); obtain ⟨x83, hx84⟩ := hz
       have hz := (p_l).at (k := 3) (fun _ => rfl) hx84
       obtain ⟨g85, off86, hl87, hc88⟩ := hz
       refine K21 (xE (k := .i64) v_l i _ g85 off86 el29 hl87 (by omega)) (zE ?_)
       refine ⟨rfl, ?_⟩
       refine K12 (I_all2 3 7) ?_ ?_
       ·skip
        refine yZ 3 rfl ?_ rfl
        refine K32 (yH g71 (off72 + i * 3) [(.int .i32 x69.1), (.int .i32 x69.2.1), (.int .u8 x69.2.2)]) hc74 (zE ?_)
        refine ⟨rfl, ?_⟩
        refine K11 (yJ 7) ?_
        refine yZ 7 rfl ?_ rfl
        refine K32 (yH g85 (off86 + i * 3) [(.int .i32 x83.1), (.int .i32 x83.2.1), (.int .u8 x83.2.2)]) hc88 (zE ?_)
        refine ⟨rfl, ?_⟩
        refine K11 (yJ 8) ?_
        refine yZ 8 rfl ?_ rfl
        refine K33 (L_aggne [(.int .i32 x69.1), (.int .i32 x69.2.1), (.int .u8 x69.2.2)] [(.int .i32 x83.1), (.int .i32 x83.2.1), (.int .u8 x83.2.2)] (x69.1 == x83.1 && x69.2.1 == x83.2.1 && x69.2.2 == x83.2.2)) (eqagg34 x69.1 x69.2.1 x69.2.2 x83.1 x83.2.1 x83.2.2) ?_ ?_
        ·intro h89
         refine zE ?_
         refine ⟨rfl, ?_⟩
         refine K11 yQ ?_
         refine zA (K11 zS (zF (zD (zJ (zE (zA (zX (zU (zH (zH (zU (zH ?_))))))))))))
         refine zO [.tmp 6] [(.bool false)] rfl hds ⟨by kernel_rfl, trivial⟩ ?_
         have e0 : false = (decide (a = fewC l few)) := by exact (decide_eq_false (same_no (i := i) i4 (by omega) (by assumption) (by assumption) (sp_ne (by assumption)))).symm
         exact ⟨congrArg Value.bool e0, hb⟩
        ·intro h90
         replace h90 : x69.1 = x83.1 ∧ x69.2.1 = x83.2.1 ∧ x69.2.2 = x83.2.2 := by simpa [and_assoc] using h90
         refine zE ?_
         refine ⟨rfl, ?_⟩
         refine K11 yQ ?_
         refine zA (K11 zN (zV (zP (zA (zD (zI (K21 (xD i 1 (by omega)) (zJ (zE ?_)))))))))
         refine zA ⟨_, ?_, (i + 1), rfl, hds, by kernel_rfl, by kernel_rfl, by kernel_rfl, by kernel_rfl, p_a, p_l, hb, hs, ?_, ?_, ?_, ?_⟩
         ·omega
         ·omega
         ·exact i2
         ·exact i4
         ·exact same_step (i := i) i4 i3 (by omega) (by assumption) (by assumption) (sp_eq (by assumption))
       ·skip
        refine yZ 7 rfl ?_ rfl
        refine K32 (yH g85 (off86 + i * 3) [(.int .i32 x83.1), (.int .i32 x83.2.1), (.int .u8 x83.2.2)]) hc88 (zE ?_)
        refine ⟨rfl, ?_⟩
        refine K11 (yJ 3) ?_
        refine yZ 3 rfl ?_ rfl
        refine K32 (yH g71 (off72 + i * 3) [(.int .i32 x69.1), (.int .i32 x69.2.1), (.int .u8 x69.2.2)]) hc74 (zE ?_)
        refine ⟨rfl, ?_⟩
        refine K11 (yJ 8) ?_
        refine yZ 8 rfl ?_ rfl
        refine K33 (L_aggne [(.int .i32 x69.1), (.int .i32 x69.2.1), (.int .u8 x69.2.2)] [(.int .i32 x83.1), (.int .i32 x83.2.1), (.int .u8 x83.2.2)] (x69.1 == x83.1 && x69.2.1 == x83.2.1 && x69.2.2 == x83.2.2)) (eqagg34 x69.1 x69.2.1 x69.2.2 x83.1 x83.2.1 x83.2.2) ?_ ?_
        ·intro h91
         refine zE ?_
         refine ⟨rfl, ?_⟩
         refine K11 yQ ?_
         refine zA (K11 zS (zF (zD (zJ (zE (zA (zX (zU (zH (zH (zU (zH ?_))))))))))))
         refine zO [.tmp 6] [(.bool false)] rfl hds ⟨by kernel_rfl, trivial⟩ ?_
         have e0 : false = (decide (a = fewC l few)) := by exact (decide_eq_false (same_no (i := i) i4 (by omega) (by assumption) (by assumption) (sp_ne (by assumption)))).symm
         exact ⟨congrArg Value.bool e0, hb⟩
        ·intro h92
         replace h92 : x69.1 = x83.1 ∧ x69.2.1 = x83.2.1 ∧ x69.2.2 = x83.2.2 := by simpa [and_assoc] using h92
         refine zE ?_
         refine ⟨rfl, ?_⟩
         refine K11 yQ ?_
         refine zA (K11 zN (zV (zP (zA (zD (zI (K21 (xD i 1 (by omega)) (zJ (zE ?_)))))))))
         refine zA ⟨_, ?_, (i + 1), rfl, hds, by kernel_rfl, by kernel_rfl, by kernel_rfl, by kernel_rfl, p_a, p_l, hb, hs, ?_, ?_, ?_, ?_⟩
         ·omega
         ·omega
         ·exact i2
         ·exact i4
         ·exact same_step (i := i) i4 i3 (by omega) (by assumption) (by assumption) (sp_eq (by assumption))
     ·skip
      refine yZ 6 rfl ?_ rfl
      have hz := yT l i (by omega); obtain ⟨x93, hx94⟩ := hz
      have hz := (p_l).at (k := 3) (fun _ => rfl) hx94
      obtain ⟨g95, off96, hl97, hc98⟩ := hz
      refine K21 (xE (k := .i64) v_l i _ g95 off96 el29 hl97 (by omega)) (zE ?_)
      refine ⟨rfl, ?_⟩
      refine K12 (I_all2 2 7) ?_ ?_
      ·skip
       refine yZ 2 rfl ?_ rfl
       have hz := yT a i (by omega); obtain ⟨x99, hx100⟩ := hz
       have hz := (p_a).at (k := 3) (fun _ => rfl) hx100
       obtain ⟨g101, off102, hl103, hc104⟩ := hz
       refine K21 (xE (k := .i64) v_a i _ g101 off102 el29 hl103 (by omega)) (zE ?_)
       refine ⟨rfl, ?_⟩
       refine K12 (I_all2 3 7) ?_ ?_
       ·skip
        refine yZ 3 rfl ?_ rfl
        refine K32 (yH g101 (off102 + i * 3) [(.int .i32 x99.1), (.int .i32 x99.2.1), (.int .u8 x99.2.2)]) hc104 (zE ?_)
        refine ⟨rfl, ?_⟩
        refine K11 (yJ 7) ?_
        refine yZ 7 rfl ?_ rfl
        refine K32 (yH g95 (off96 + i * 3) [(.int .i32 x93.1), (.int .i32 x93.2.1), (.int .u8 x93.2.2)]) hc98 (zE ?_)
        refine ⟨rfl, ?_⟩
        refine K11 (yJ 8) ?_
        refine yZ 8 rfl ?_ rfl
        refine K33 (L_aggne [(.int .i32 x99.1), (.int .i32 x99.2.1), (.int .u8 x99.2.2)] [(.int .i32 x93.1), (.int .i32 x93.2.1), (.int .u8 x93.2.2)] (x99.1 == x93.1 && x99.2.1 == x93.2.1 && x99.2.2 == x93.2.2)) (eqagg34 x99.1 x99.2.1 x99.2.2 x93.1 x93.2.1 x93.2.2) ?_ ?_
        ·intro h105
         refine zE ?_
         refine ⟨rfl, ?_⟩
         refine K11 yQ ?_
         refine zA (K11 zS (zF (zD (zJ (zE (zA (zX (zU (zH (zH (zU (zH ?_))))))))))))
         refine zO [.tmp 6] [(.bool false)] rfl hds ⟨by kernel_rfl, trivial⟩ ?_
         have e0 : false = (decide (a = fewC l few)) := by exact (decide_eq_false (same_no (i := i) i4 (by omega) (by assumption) (by assumption) (sp_ne (by assumption)))).symm
         exact ⟨congrArg Value.bool e0, hb⟩
        ·intro h106
         replace h106 : x99.1 = x93.1 ∧ x99.2.1 = x93.2.1 ∧ x99.2.2 = x93.2.2 := by simpa [and_assoc] using h106
         refine zE ?_
         refine ⟨rfl, ?_⟩
         refine K11 yQ ?_
         refine zA (K11 zN (zV (zP (zA (zD (zI (K21 (xD i 1 (by omega)) (zJ (zE ?_)))))))))
         refine zA ⟨_, ?_, (i + 1), rfl, hds, by kernel_rfl, by kernel_rfl, by kernel_rfl, by kernel_rfl, p_a, p_l, hb, hs, ?_, ?_, ?_, ?_⟩
         ·omega
         ·omega
         ·exact i2
         ·exact i4
         ·exact same_step (i := i) i4 i3 (by omega) (by assumption) (by assumption) (sp_eq (by assumption))
       ·skip
        refine yZ 7 rfl ?_ rfl
        refine K32 (yH g95 (off96 + i * 3) [(.int .i32 x93.1), (.int .i32 x93.2.1), (.int .u8 x93.2.2)]) hc98 (zE ?_)
        refine ⟨rfl, ?_⟩
        refine K11 (yJ 3) ?_
        refine yZ 3 rfl ?_ rfl
        refine K32 (yH g101 (off102 + i * 3) [(.int .i32 x99.1), (.int .i32 x99.2.1), (.int .u8 x99.2.2)]) hc104 (zE ?_)
        refine ⟨rfl, ?_⟩
        refine K11 (yJ 8) ?_
        refine yZ 8 rfl ?_ rfl
        refine K33 (L_aggne [(.int .i32 x99.1), (.int .i32 x99.2.1), (.int .u8 x99.2.2)] [(.int .i32 x93.1), (.int .i32 x93.2.1), (.int .u8 x93.2.2)] (x99.1 == x93.1 && x99.2.1 == x93.2.1 && x99.2.2 == x93.2.2)) (eqagg34 x99.1 x99.2.1 x99.2.2 x93.1 x93.2.1 x93.2.2) ?_ ?_
        ·intro h107
         refine zE ?_
         refine ⟨rfl, ?_⟩
         refine K11 yQ ?_
         refine zA (K11 zS (zF (zD (zJ (zE (zA (zX (zU (zH (zH (zU (zH ?_))))))))))))
         refine zO [.tmp 6] [(.bool false)] rfl hds ⟨by kernel_rfl, trivial⟩ ?_
         have e0 : false = (decide (a = fewC l few)) := by exact (decide_eq_false (same_no (i := i) i4 (by omega) (by assumption) (by assumption) (sp_ne (by assumption)))).symm
         exact ⟨congrArg Value.bool e0, hb⟩
        ·intro h108
         replace h108 : x99.1 = x93.1 ∧ x99.2.1 = x93.2.1 ∧ x99.2.2 = x93.2.2 := by simpa [and_assoc] using h108
         refine zE ?_
         refine ⟨rfl, ?_⟩
         refine K11 yQ ?_
         refine zA (K11 zN (zV (zP (zA (zD (zI (K21 (xD i 1 (by omega)) (zJ (zE ?_)))))))))
         refine zA ⟨_, ?_, (i + 1), rfl, hds, by kernel_rfl, by kernel_rfl, by kernel_rfl, by kernel_rfl, p_a, p_l, hb, hs, ?_, ?_, ?_, ?_⟩
         ·omega
         ·omega
         ·exact i2
         ·exact i4
         ·exact same_step (i := i) i4 i3 (by omega) (by assumption) (by assumption) (sp_eq (by assumption))
      ·skip
       refine yZ 7 rfl ?_ rfl
       refine K32 (yH g95 (off96 + i * 3) [(.int .i32 x93.1), (.int .i32 x93.2.1), (.int .u8 x93.2.2)]) hc98 (zE ?_)
       refine ⟨rfl, ?_⟩
       refine K11 (yJ 2) ?_
       refine yZ 2 rfl ?_ rfl
       have hz := yT a i (by omega); obtain ⟨x109, hx110⟩ := hz
       have hz := (p_a).at (k := 3) (fun _ => rfl) hx110
       obtain ⟨g111, off112, hl113, hc114⟩ := hz
       refine K21 (xE (k := .i64) v_a i _ g111 off112 el29 hl113 (by omega)) (zE ?_)
       refine ⟨rfl, ?_⟩
       refine K11 (yJ 3) ?_
       refine yZ 3 rfl ?_ rfl
       refine K32 (yH g111 (off112 + i * 3) [(.int .i32 x109.1), (.int .i32 x109.2.1), (.int .u8 x109.2.2)]) hc114 (zE ?_)
       refine ⟨rfl, ?_⟩
       refine K11 (yJ 8) ?_
       refine yZ 8 rfl ?_ rfl
       refine K33 (L_aggne [(.int .i32 x109.1), (.int .i32 x109.2.1), (.int .u8 x109.2.2)] [(.int .i32 x93.1), (.int .i32 x93.2.1), (.int .u8 x93.2.2)] (x109.1 == x93.1 && x109.2.1 == x93.2.1 && x109.2.2 == x93.2.2)) (eqagg34 x109.1 x109.2.1 x109.2.2 x93.1 x93.2.1 x93.2.2) ?_ ?_
       ·intro h115
        refine zE ?_
        refine ⟨rfl, ?_⟩
        refine K11 yQ ?_
        refine zA (K11 zS (zF (zD (zJ (zE (zA (zX (zU (zH (zH (zU (zH ?_))))))))))))
        refine zO [.tmp 6] [(.bool false)] rfl hds ⟨by kernel_rfl, trivial⟩ ?_
        have e0 : false = (decide (a = fewC l few)) := by exact (decide_eq_false (same_no (i := i) i4 (by omega) (by assumption) (by assumption) (sp_ne (by assumption)))).symm
        exact ⟨congrArg Value.bool e0, hb⟩
       ·intro h116
        replace h116 : x109.1 = x93.1 ∧ x109.2.1 = x93.2.1 ∧ x109.2.2 = x93.2.2 := by simpa [and_assoc] using h116
        refine zE ?_
        refine ⟨rfl, ?_⟩
        refine K11 yQ ?_
        refine zA (K11 zN (zV (zP (zA (zD (zI (K21 (xD i 1 (by omega)) (zJ (zE ?_)))))))))
        refine zA ⟨_, ?_, (i + 1), rfl, hds, by kernel_rfl, by kernel_rfl, by kernel_rfl, by kernel_rfl, p_a, p_l, hb, hs, ?_, ?_, ?_, ?_⟩
        ·omega
        ·omega
        ·exact i2
        ·exact i4
        ·exact same_step (i := i) i4 i3 (by omega) (by assumption) (by assumption) (sp_eq (by assumption))
    ·intro h117
     replace h117 : (l).length ≤ i := by omega
     refine zE (zA (K11 zN (W_exit (yM (yM (xM (zA (zF (zD (zJ (zE (zA (zX ?_)))))))))))))
     refine zO [.tmp 6] [(.bool true)] rfl hds ⟨by kernel_rfl, trivial⟩ ?_
     have e0 : true = (decide (a = fewC l few)) := by exact (decide_eq_true (same_end i4 i3 i2 (by omega))).symm
     exact ⟨congrArg Value.bool e0, hb⟩
 ·intro h118
  replace h118 : few < 0 := by omega
  refine zI (K11 yC (K11 yC (K11 yC (K11 yC (K11 yV (zE (zA (K11 zN (zV (zA (zF (zF (zD (zI (K11 (L_len 29 34 (a).length v_a rfl Tryz.underlying29 (p_a).len) (zI (K22 (yD .i64 (((a).length : Nat) : Int) (((l).length : Nat) : Int) ((a).length ≠ (l).length) rfl (cmpN_ne ((a).length) ((l).length))) ?_ ?_)))))))))))))))))
  ·intro h119
   replace h119 : (a).length ≠ (l).length := by omega
   refine zE (zA (K11 zS (zF (zD (zJ (zE (zA (zX (zH ?_)))))))))
   refine zO [.tmp 6] [(.bool false)] rfl rfl ⟨by kernel_rfl, trivial⟩ ?_
   have e0 : false = (decide (a = fewC l few)) := by exact (decide_eq_false (same_len (n := l.length) (by rw [hfn, if_neg (by omega)]) (by omega))).symm
   exact ⟨congrArg Value.bool e0, hb⟩
  ·intro h120
   replace h120 : (a).length = (l).length := by omega
   refine zE (zA (K11 zN (zV (zA (zF (zF (zD (zJ (zE (zA (yP ?_)))))))))))
   refine W_loop (fun m s0 w0 => ∃ (i : Nat), (m = a.length - i) ∧ (s0.ds = []) ∧ (s0.f 0 = v_a) ∧ (s0.f 1 = v_l) ∧ (s0.f 7 = (.int .i64 (((l).length : Nat) : Int))) ∧ (s0.f 8 = (.int .i64 ((i : Nat) : Int))) ∧ (Rd w0 encSpanC v_a a) ∧ (Rd w0 encSpanC v_l l) ∧ (Below w.heap.size w w0) ∧ (w.heap.size ≤ w0.heap.size) ∧ ((i : Int) ≤ (((l).length : Nat) : Int)) ∧ ((a.length : Int) = (((l).length : Nat) : Int)) ∧ (((fewC l few).length : Int) = (((l).length : Nat) : Int)) ∧ (a.take i = (fewC l few).take i)) _ ⟨0, rfl, by kernel_rfl, by kernel_rfl, by kernel_rfl, by kernel_rfl, by kernel_rfl, p_a, p_l, hb, hs, (by omega), (by omega), (by (rw [hfn, if_neg (by omega)]; done)), rfl⟩ ?_
   rintro m121 s122 w123 ⟨i, hm, hds, f_0, f_1, f_7, f_8, p_a, p_l, hb, hs, i1, i2, i4, i3⟩
   refine yK 0 _ f_0 (yK 1 _ f_1 (yK 7 _ f_7 (yK 8 _ f_8 ?_)))
   clear f_0 f_1 f_7 f_8
   refine zF (zF (zD (zI (zI (K22 (yD .i64 ((i : Nat) : Int) (((l).length : Nat) : Int) (i < (l).length) rfl (cmpN_lt i ((l).length))) ?_ ?_)))))
   ·intro h124
    replace h124 : i < (l).length := by omega
    refine zE (zA (K11 zS (zV (zA (zF (yP (zF (K31 (W_draws 9) ?_))))))))
    intro w125 hB126
    replace hb := hb.trans (hB126.mono hs)
    replace hs := Nat.le_trans hs (hB126.size)
    replace p_a := p_a.below hB126
    replace p_l := p_l.below hB126
    refine K44 (yE 0 v_a rfl) (zC (zG (zC (zC (zG (zC zR)))))) (by kernel_rfl) (fun _ => by kernel_rfl) ?_
    refine K44 (yE 1 (.int .i64 ((i : Nat) : Int)) rfl) (zC (zG (zC (zC (zG (zC zR)))))) (by kernel_rfl) (fun _ => by kernel_rfl) ?_
    refine K44 (yE 4 v_l rfl) (zC (zG (zC (zC (zG (zC zR)))))) (by kernel_rfl) (fun _ => by kernel_rfl) ?_
    refine K44 (yE 5 (.int .i64 ((i : Nat) : Int)) rfl) (zC (zG (zC (zC (zG (zC zR)))))) (by kernel_rfl) (fun _ => by kernel_rfl) ?_
    refine K12 (I_all2 2 6) ?_ ?_
    ·skip
     refine yZ 2 rfl ?_ rfl
     have hz := yT a i (by omega); obtain ⟨x127, hx128⟩ := hz
     have hz := (p_a).at (k := 3) (fun _ => rfl) hx128
     obtain ⟨g129, off130, hl131, hc132⟩ := hz
     refine K21 (xE (k := .i64) v_a i _ g129 off130 el29 hl131 (by omega)) (zE ?_)
     refine ⟨rfl, ?_⟩
     refine K12 (I_all2 3 6) ?_ ?_
     ·skip
      refine yZ 3 rfl ?_ rfl
      refine K32 (yH g129 (off130 + i * 3) [(.int .i32 x127.1), (.int .i32 x127.2.1), (.int .u8 x127.2.2)]) hc132 (zE ?_)
      refine ⟨rfl, ?_⟩
      refine K11 (yJ 6) ?_
      refine yZ 6 rfl ?_ rfl
      have hz := yT l i (by omega); obtain ⟨x133, hx134⟩ := hz
      have hz := (p_l).at (k := 3) (fun _ => rfl) hx134
      obtain ⟨g135, off136, hl137, hc138⟩ := hz
      refine K21 (xE (k := .i64) v_l i _ g135 off136 el29 hl137 (by omega)) (zE ?_)
      refine ⟨rfl, ?_⟩
      refine K11 (yJ 7) ?_
      refine yZ 7 rfl ?_ rfl
      refine K32 (yH g135 (off136 + i * 3) [(.int .i32 x133.1), (.int .i32 x133.2.1), (.int .u8 x133.2.2)]) hc138 (zE ?_)
      refine ⟨rfl, ?_⟩
      refine K11 (yJ 8) ?_
      refine yZ 8 rfl ?_ rfl
      refine K33 (L_aggne [(.int .i32 x127.1), (.int .i32 x127.2.1), (.int .u8 x127.2.2)] [(.int .i32 x133.1), (.int .i32 x133.2.1), (.int .u8 x133.2.2)] (x127.1 == x133.1 && x127.2.1 == x133.2.1 && x127.2.2 == x133.2.2)) (eqagg34 x127.1 x127.2.1 x127.2.2 x133.1 x133.2.1 x133.2.2) ?_ ?_
      ·intro h139
       refine zE ?_
       refine ⟨rfl, ?_⟩
       refine K11 yQ ?_
       refine zA (K11 zS (zF (zD (zJ (zE (zA (zX (zU (zH (zH (zU (zH ?_))))))))))))
       refine zO [.tmp 6] [(.bool false)] rfl hds ⟨by kernel_rfl, trivial⟩ ?_
       have e0 : false = (decide (a = fewC l few)) := by exact (decide_eq_false (same_no (i := i) i4 (by omega) (by assumption) (by assumption) (sp_ne (by assumption)))).symm
       exact ⟨congrArg Value.bool e0, hb⟩
      ·intro h140
       replace h140 : x127.1 = x133.1 ∧ x127.2.1 = x133.2.1 ∧ x127.2.2 = x133.2.2 := by simpa [and_assoc] using h140
       refine zE ?_
       refine ⟨rfl, ?_⟩
       refine K11 yQ ?_
       refine zA (K11 zN (zV (zP (zA (zD (zI (K21 (xD i 1 (by omega)) (zJ (zE ?_)))))))))
       refine zA ⟨_, ?_, (i + 1), rfl, hds, by kernel_rfl, by kernel_rfl, by kernel_rfl, by kernel_rfl, p_a, p_l, hb, hs, ?_, ?_, ?_, ?_⟩
       ·omega
       ·omega
       ·exact i2
       ·exact i4
       ·exact same_step (i := i) i4 i3 (by omega) (by assumption) (by assumption) (sp_eq (by assumption))
     ·skip
      refine yZ 6 rfl ?_ rfl
      have hz := yT l i (by omega); obtain ⟨x141, hx142⟩ := hz
      have hz := (p_l).at (k := 3) (fun _ => rfl) hx142
      obtain ⟨g143, off144, hl145, hc146⟩ := hz
      refine K21 (xE (k := .i64) v_l i _ g143 off144 el29 hl145 (by omega)) (zE ?_)
      refine ⟨rfl, ?_⟩
      refine K12 (I_all2 3 7) ?_ ?_
      ·skip
       refine yZ 3 rfl ?_ rfl
       refine K32 (yH g129 (off130 + i * 3) [(.int .i32 x127.1), (.int .i32 x127.2.1), (.int .u8 x127.2.2)]) hc132 (zE ?_)
       refine ⟨rfl, ?_⟩
       refine K11 (yJ 7) ?_
       refine yZ 7 rfl ?_ rfl
       refine K32 (yH g143 (off144 + i * 3) [(.int .i32 x141.1), (.int .i32 x141.2.1), (.int .u8 x141.2.2)]) hc146 (zE ?_)
       refine ⟨rfl, ?_⟩
       refine K11 (yJ 8) ?_
       refine yZ 8 rfl ?_ rfl
       refine K33 (L_aggne [(.int .i32 x127.1), (.int .i32 x127.2.1), (.int .u8 x127.2.2)] [(.int .i32 x141.1), (.int .i32 x141.2.1), (.int .u8 x141.2.2)] (x127.1 == x141.1 && x127.2.1 == x141.2.1 && x127.2.2 == x141.2.2)) (eqagg34 x127.1 x127.2.1 x127.2.2 x141.1 x141.2.1 x141.2.2) ?_ ?_
       ·intro h147
        refine zE ?_
        refine ⟨rfl, ?_⟩
        refine K11 yQ ?_
        refine zA (K11 zS (zF (zD (zJ (zE (zA (zX (zU (zH (zH (zU (zH ?_))))))))))))
        refine zO [.tmp 6] [(.bool false)] rfl hds ⟨by kernel_rfl, trivial⟩ ?_
        have e0 : false = (decide (a = fewC l few)) := by exact (decide_eq_false (same_no (i := i) i4 (by omega) (by assumption) (by assumption) (sp_ne (by assumption)))).symm
        exact ⟨congrArg Value.bool e0, hb⟩
       ·intro h148
        replace h148 : x127.1 = x141.1 ∧ x127.2.1 = x141.2.1 ∧ x127.2.2 = x141.2.2 := by simpa [and_assoc] using h148
        refine zE ?_
        refine ⟨rfl, ?_⟩
        refine K11 yQ ?_
        refine zA (K11 zN (zV (zP (zA (zD (zI (K21 (xD i 1 (by omega)) (zJ (zE ?_)))))))))
        refine zA ⟨_, ?_, (i + 1), rfl, hds, by kernel_rfl, by kernel_rfl, by kernel_rfl, by kernel_rfl, p_a, p_l, hb, hs, ?_, ?_, ?_, ?_⟩
        ·omega
        ·omega
        ·exact i2
        ·exact i4
        ·exact same_step (i := i) i4 i3 (by omega) (by assumption) (by assumption) (sp_eq (by assumption))
      ·skip
       refine yZ 7 rfl ?_ rfl
       refine K32 (yH g143 (off144 + i * 3) [(.int .i32 x141.1), (.int .i32 x141.2.1), (.int .u8 x141.2.2)]) hc146 (zE ?_)
       refine ⟨rfl, ?_⟩
       refine K11 (yJ 3) ?_
       refine yZ 3 rfl ?_ rfl
       refine K32 (yH g129 (off130 + i * 3) [(.int .i32 x127.1), (.int .i32 x127.2.1), (.int .u8 x127.2.2)]) hc132 (zE ?_)
       refine ⟨rfl, ?_⟩
       refine K11 (yJ 8) ?_
       refine yZ 8 rfl ?_ rfl
       refine K33 (L_aggne [(.int .i32 x127.1), (.int .i32 x127.2.1), (.int .u8 x127.2.2)] [(.int .i32 x141.1), (.int .i32 x141.2.1), (.int .u8 x141.2.2)] (x127.1 == x141.1 && x127.2.1 == x141.2.1 && x127.2.2 == x141.2.2)) (eqagg34 x127.1 x127.2.1 x127.2.2 x141.1 x141.2.1 x141.2.2) ?_ ?_
       ·intro h149
        refine zE ?_
        refine ⟨rfl, ?_⟩
        refine K11 yQ ?_
        refine zA (K11 zS (zF (zD (zJ (zE (zA (zX (zU (zH (zH (zU (zH ?_))))))))))))
        refine zO [.tmp 6] [(.bool false)] rfl hds ⟨by kernel_rfl, trivial⟩ ?_
        have e0 : false = (decide (a = fewC l few)) := by exact (decide_eq_false (same_no (i := i) i4 (by omega) (by assumption) (by assumption) (sp_ne (by assumption)))).symm
        exact ⟨congrArg Value.bool e0, hb⟩
       ·intro h150
        replace h150 : x127.1 = x141.1 ∧ x127.2.1 = x141.2.1 ∧ x127.2.2 = x141.2.2 := by simpa [and_assoc] using h150
        refine zE ?_
        refine ⟨rfl, ?_⟩
        refine K11 yQ ?_
        refine zA (K11 zN (zV (zP (zA (zD (zI (K21 (xD i 1 (by omega)) (zJ (zE ?_)))))))))
        refine zA ⟨_, ?_, (i + 1), rfl, hds, by kernel_rfl, by kernel_rfl, by kernel_rfl, by kernel_rfl, p_a, p_l, hb, hs, ?_, ?_, ?_, ?_⟩
        ·omega
        ·omega
        ·exact i2
        ·exact i4
        ·exact same_step (i := i) i4 i3 (by omega) (by assumption) (by assumption) (sp_eq (by assumption))
    ·skip
     refine yZ 6 rfl ?_ rfl
     have hz := yT l i (by omega); obtain ⟨x151, hx152⟩ := hz
     have hz := (p_l).at (k := 3) (fun _ => rfl) hx152
     obtain ⟨g153, off154, hl155, hc156⟩ := hz
     refine K21 (xE (k := .i64) v_l i _ g153 off154 el29 hl155 (by omega)) (zE ?_)
     refine ⟨rfl, ?_⟩
     refine K12 (I_all2 2 7) ?_ ?_
     ·skip
      refine yZ 2 rfl ?_ rfl
      have hz := yT a i (by omega); obtain ⟨x157, hx158⟩ := hz
      have hz := (p_a).at (k := 3) (fun _ => rfl) hx158
      obtain ⟨g159, off160, hl161, hc162⟩ := hz
      refine K21 (xE (k := .i64) v_a i _ g159 off160 el29 hl161 (by omega)) (zE ?_)
      refine ⟨rfl, ?_⟩
      refine K12 (I_all2 3 7) ?_ ?_
      ·skip
       refine yZ 3 rfl ?_ rfl
       refine K32 (yH g159 (off160 + i * 3) [(.int .i32 x157.1), (.int .i32 x157.2.1), (.int .u8 x157.2.2)]) hc162 (zE ?_)
       refine ⟨rfl, ?_⟩
       refine K11 (yJ 7) ?_
       refine yZ 7 rfl ?_ rfl
       refine K32 (yH g153 (off154 + i * 3) [(.int .i32 x151.1), (.int .i32 x151.2.1), (.int .u8 x151.2.2)]) hc156 (zE ?_)
       refine ⟨rfl, ?_⟩
       refine K11 (yJ 8) ?_
       refine yZ 8 rfl ?_ rfl
       refine K33 (L_aggne [(.int .i32 x157.1), (.int .i32 x157.2.1), (.int .u8 x157.2.2)] [(.int .i32 x151.1), (.int .i32 x151.2.1), (.int .u8 x151.2.2)] (x157.1 == x151.1 && x157.2.1 == x151.2.1 && x157.2.2 == x151.2.2)) (eqagg34 x157.1 x157.2.1 x157.2.2 x151.1 x151.2.1 x151.2.2) ?_ ?_
       ·intro h163
        refine zE ?_
        refine ⟨rfl, ?_⟩
        refine K11 yQ ?_
        refine zA (K11 zS (zF (zD (zJ (zE (zA (zX (zU (zH (zH (zU (zH ?_))))))))))))
        refine zO [.tmp 6] [(.bool false)] rfl hds ⟨by kernel_rfl, trivial⟩ ?_
        have e0 : false = (decide (a = fewC l few)) := by exact (decide_eq_false (same_no (i := i) i4 (by omega) (by assumption) (by assumption) (sp_ne (by assumption)))).symm
        exact ⟨congrArg Value.bool e0, hb⟩
       ·intro h164
        replace h164 : x157.1 = x151.1 ∧ x157.2.1 = x151.2.1 ∧ x157.2.2 = x151.2.2 := by simpa [and_assoc] using h164
        refine zE ?_
        refine ⟨rfl, ?_⟩
        refine K11 yQ ?_
        refine zA (K11 zN (zV (zP (zA (zD (zI (K21 (xD i 1 (by omega)) (zJ (zE ?_)))))))))
        refine zA ⟨_, ?_, (i + 1), rfl, hds, by kernel_rfl, by kernel_rfl, by kernel_rfl, by kernel_rfl, p_a, p_l, hb, hs, ?_, ?_, ?_, ?_⟩
        ·omega
        ·omega
        ·exact i2
        ·exact i4
        ·exact same_step (i := i) i4 i3 (by omega) (by assumption) (by assumption) (sp_eq (by assumption))
      ·skip
       refine yZ 7 rfl ?_ rfl
       refine K32 (yH g153 (off154 + i * 3) [(.int .i32 x151.1), (.int .i32 x151.2.1), (.int .u8 x151.2.2)]) hc156 (zE ?_)
       refine ⟨rfl, ?_⟩
       refine K11 (yJ 3) ?_
       refine yZ 3 rfl ?_ rfl
       refine K32 (yH g159 (off160 + i * 3) [(.int .i32 x157.1), (.int .i32 x157.2.1), (.int .u8 x157.2.2)]) hc162 (zE ?_)
       refine ⟨rfl, ?_⟩
       refine K11 (yJ 8) ?_
       refine yZ 8 rfl ?_ rfl
       refine K33 (L_aggne [(.int .i32 x157.1), (.int .i32 x157.2.1), (.int .u8 x157.2.2)] [(.int .i32 x151.1), (.int .i32 x151.2.1), (.int .u8 x151.2.2)] (x157.1 == x151.1 && x157.2.1 == x151.2.1 && x157.2.2 == x151.2.2)) (eqagg34 x157.1 x157.2.1 x157.2.2 x151.1 x151.2.1 x151.2.2) ?_ ?_
       ·intro h165
        refine zE ?_
        refine ⟨rfl, ?_⟩
        refine K11 yQ ?_
        refine zA (K11 zS (zF (zD (zJ (zE (zA (zX (zU (zH (zH (zU (zH ?_))))))))))))
        refine zO [.tmp 6] [(.bool false)] rfl hds ⟨by kernel_rfl, trivial⟩ ?_
        have e0 : false = (decide (a = fewC l few)) := by exact (decide_eq_false (same_no (i := i) i4 (by omega) (by assumption) (by assumption) (sp_ne (by assumption)))).symm
        exact ⟨congrArg Value.bool e0, hb⟩
       ·intro h166
        replace h166 : x157.1 = x151.1 ∧ x157.2.1 = x151.2.1 ∧ x157.2.2 = x151.2.2 := by simpa [and_assoc] using h166
        refine zE ?_
        refine ⟨rfl, ?_⟩
        refine K11 yQ ?_
        refine zA (K11 zN (zV (zP (zA (zD (zI (K21 (xD i 1 (by omega)) (zJ (zE ?_)))))))))
        refine zA ⟨_, ?_, (i + 1), rfl, hds, by kernel_rfl, by kernel_rfl, by kernel_rfl, by kernel_rfl, p_a, p_l, hb, hs, ?_, ?_, ?_, ?_⟩
        ·omega
        ·omega
        ·exact i2
        ·exact i4
        ·exact same_step (i := i) i4 i3 (by omega) (by assumption) (by assumption) (sp_eq (by assumption))
     ·skip
      refine yZ 7 rfl ?_ rfl
      refine K32 (yH g153 (off154 + i * 3) [(.int .i32 x151.1), (.int .i32 x151.2.1), (.int .u8 x151.2.2)]) hc156 (zE ?_)
      refine ⟨rfl, ?_⟩
      refine K11 (yJ 2) ?_
      refine yZ 2 rfl ?_ rfl
      have hz := yT a i (by omega); obtain ⟨x167, hx168⟩ := hz
      have hz := (p_a).at (k := 3) (fun _ => rfl) hx168
      obtain ⟨g169, off170, hl171, hc172⟩ := hz
      refine K21 (xE (k := .i64) v_a i _ g169 off170 el29 hl171 (by omega)) (zE ?_)
      refine ⟨rfl, ?_⟩
      refine K11 (yJ 3) ?_
      refine yZ 3 rfl ?_ rfl
      refine K32 (yH g169 (off170 + i * 3) [(.int .i32 x167.1), (.int .i32 x167.2.1), (.int .u8 x167.2.2)]) hc172 (zE ?_)
      refine ⟨rfl, ?_⟩
      refine K11 (yJ 8) ?_
      refine yZ 8 rfl ?_ rfl
      refine K33 (L_aggne [(.int .i32 x167.1), (.int .i32 x167.2.1), (.int .u8 x167.2.2)] [(.int .i32 x151.1), (.int .i32 x151.2.1), (.int .u8 x151.2.2)] (x167.1 == x151.1 && x167.2.1 == x151.2.1 && x167.2.2 == x151.2.2)) (eqagg34 x167.1 x167.2.1 x167.2.2 x151.1 x151.2.1 x151.2.2) ?_ ?_
      ·intro h173
       refine zE ?_
       refine ⟨rfl, ?_⟩
       refine K11 yQ ?_
       refine zA (K11 zS (zF (zD (zJ (zE (zA (zX (zU (zH (zH (zU (zH ?_))))))))))))
       refine zO [.tmp 6] [(.bool false)] rfl hds ⟨by kernel_rfl, trivial⟩ ?_
       have e0 : false = (decide (a = fewC l few)) := by exact (decide_eq_false (same_no (i := i) i4 (by omega) (by assumption) (by assumption) (sp_ne (by assumption)))).symm
       exact ⟨congrArg Value.bool e0, hb⟩
      ·intro h174
       replace h174 : x167.1 = x151.1 ∧ x167.2.1 = x151.2.1 ∧ x167.2.2 = x151.2.2 := by simpa [and_assoc] using h174
       refine zE ?_
       refine ⟨rfl, ?_⟩
       refine K11 yQ ?_
       refine zA (K11 zN (zV (zP (zA (zD (zI (K21 (xD i 1 (by omega)) (zJ (zE ?_)))))))))
       refine zA ⟨_, ?_, (i + 1), rfl, hds, by kernel_rfl, by kernel_rfl, by kernel_rfl, by kernel_rfl, p_a, p_l, hb, hs, ?_, ?_, ?_, ?_⟩
       ·omega
       ·omega
       ·exact i2
       ·exact i4
       ·exact same_step (i := i) i4 i3 (by omega) (by assumption) (by assumption) (sp_eq (by assumption))
   ·intro h175
    replace h175 : (l).length ≤ i := by omega
    refine zE (zA (K11 zN (W_exit (yM (yM (xM (zA (zF (zD (zJ (zE (zA (zX ?_)))))))))))))
    refine zO [.tmp 6] [(.bool true)] rfl hds ⟨by kernel_rfl, trivial⟩ ?_
    have e0 : true = (decide (a = fewC l few)) := by exact (decide_eq_true (same_end i4 i3 i2 (by omega))).symm
    exact ⟨congrArg Value.bool e0, hb⟩
end Go.Proofs.YtkclikfejmeblaaGreatDoor
end

/- === Wclaw === -/
section
/- Walks, written by my program walk.py out of the specification claw.py: each theorem says what one function returns and that it leaves memory as it was. -/
namespace Go.Proofs.YtkclikfejmeblaaGreatDoor
open Go Go.RowKit Go.FK
def litT0 : List UInt8 := ([35, 32, 64, 109, 105, 115, 115, 105, 110, 103, 58, 32, 48, 48, 48, 48, 46, 46, 49, 48, 70, 70, 70, 70, 59, 32, 76, 101, 102, 116, 95, 84, 111, 95, 82, 105, 103, 104, 116, 10, 35, 32, 64, 109, 105, 115, 115, 105, 110, 103, 58, 32, 48, 53, 57, 48, 46, 46, 48, 53, 70, 70, 59, 32, 82, 10, 10, 48, 48, 51, 48, 46, 46, 48, 48, 51, 57, 32, 59, 32, 69, 78, 32, 35, 32, 100, 105, 103, 105, 116, 115, 10, 48, 53, 68, 48, 32, 59, 32, 82, 105, 103, 104, 116, 32, 84, 111, 32, 76, 101, 102, 116, 10] : List UInt8)
set_option maxHeartbeats 4000000
set_option maxRecDepth 100000
set_option linter.unusedVariables false
set_option linter.unusedSimpArgs false
set_option maxRecDepth 100000
theorem lives_tab : clsF litT0 = (((([(48, 57, 4), (1488, 1488, 2)] : List SpI), ([(48, 57, 4), (1488, 1488, 5)] : List SpI), ([(0, 1114111, 1), (1424, 1535, 2)] : List SpI)) : TabC), 0, 0) := by kernel_rfl
theorem c_lives7 (w : World) {m_ml : Int} (hml : w.cell? ⟨1, 0, none⟩ = some (.int .i64 m_ml)) :
  Calls Tryz.prog 9 #[] w (Ret fun v w' => v = (.bool true) ∧ Below w.heap.size w w') := by
 refine K11 (enter (args := []) Tryz.func9 rfl (by kernel_rfl : _ = 45)) ?_
 have hb := Below.refl w.heap.size w
 have hs : w.heap.size ≤ w.heap.size := Nat.le_refl _
 refine zF (zD (zJ (zE (zA (zF (zD (K22 (yA 10 [(S ([102] : List UInt8)), (S litT0)]) (c_classes_Read_ok ([102] : List UInt8) litT0 _ (gcell_below hml hb) (by decide) (by first | kernel_rfl | assumption)) ?_)))))))
 rintro _ w5 ⟨q1, q2, q3, q4, cb8, cb9, cb10, cb11, rfl, r_q1, r_q2, r_q3, r_q4, o_cb8, g_cb8, o_cb9, g_cb9, o_cb10, g_cb10, o_cb11, g_cb11, ne_cb8_cb9, ne_cb8_cb10, ne_cb8_cb11, ne_cb9_cb10, ne_cb9_cb11, ne_cb10_cb11, hB6⟩
 replace g_cb8 := Nat.le_trans hs g_cb8
 replace g_cb9 := Nat.le_trans hs g_cb9
 replace g_cb10 := Nat.le_trans hs g_cb10
 replace g_cb11 := Nat.le_trans hs g_cb11
 replace r_q2 := r_q2.base hs
 replace r_q3 := r_q3.base hs
 replace r_q4 := r_q4.base hs
 replace hb := hb.trans (hB6.mono hs)
 replace hs := Nat.le_trans hs (hB6.size)
 refine zI (K21 (zQ (.pointer (some ⟨cb8, 0, none⟩))) (K21 (zQ .nilIface) (zJ (zJ (zE (zA (zF (zF (zD (zI (K21 (zQ (.bool false)) (zI (K11 zY (zI (K11 zY (K21 (zQ (.bool false)) (K11 yV (zE (zA (K11 zN (zV (zA (zF (zD (zI (K22 (yA 13 [(.pointer (some ⟨cb8, 0, none⟩)), (.int .i32 49)]) (c_tGiven cb8 cb9 cb10 q1 cb11 49 q2 ((clsF litT0).1.1) _ o_cb8 o_cb9 r_q2.rd (by exact (cls_ok _).1.rise)) ?_))))))))))))))))))))))))))
 rintro _ w12 ⟨rfl, hB13⟩
 replace hb := hb.trans (hB13.mono hs)
 replace hs := Nat.le_trans hs (hB13.size)
 replace o_cb8 := zB o_cb8 hB13
 replace o_cb10 := zB o_cb10 hB13
 replace o_cb11 := zB o_cb11 hB13
 replace r_q3 := r_q3.below hB13
 replace r_q4 := r_q4.below hB13
 refine zI (K21 (zQ (.int .u8 ((atM 0 ((clsF litT0).1.1) (plainF 49)).1))) (K21 (zQ (.bool ((atM 0 ((clsF litT0).1.1) (plainF 49)).2))) (xK ((atM 0 ((clsF litT0).1.1) (plainF 49)).2) ?_ ?_)))
 ·intro h15
  refine zJ (zJ (zE (zA (zF (zD (zI (K22 (yA 12 [(.pointer (some ⟨cb8, 0, none⟩)), (.int .i32 49)]) (c_tClass cb8 cb9 cb10 q1 cb11 49 q4 (wholeF (clsF litT0).1) _ o_cb8 o_cb11 r_q4.rd (by exact (whole_ok _).rise)) ?_)))))))
  rintro _ w16 ⟨rfl, hB17⟩
  replace hb := hb.trans (hB17.mono hs)
  replace hs := Nat.le_trans hs (hB17.size)
  replace o_cb8 := zB o_cb8 hB17
  replace o_cb10 := zB o_cb10 hB17
  replace o_cb11 := zB o_cb11 hB17
  replace r_q3 := r_q3.below hB17
  replace r_q4 := r_q4.below hB17
  refine K22 (yD .u8 ((atM 0 (wholeF (clsF litT0).1) (plainF 49)).1) 4 ((atM 0 (wholeF (clsF litT0).1) (plainF 49)).1 = 4) rfl (xB ((atM 0 (wholeF (clsF litT0).1) (plainF 49)).1) 4)) ?_ ?_
  ·intro h19
   replace h19 : (atM 0 (wholeF (clsF litT0).1) (plainF 49)).1 = 4 := by omega
   refine zI (K11 zY (zI (K11 zY (K22 (yA 12 [(.pointer (some ⟨cb8, 0, none⟩)), (.int .i32 1425)]) (c_tClass cb8 cb9 cb10 q1 cb11 1425 q4 (wholeF (clsF litT0).1) _ o_cb8 o_cb11 r_q4.rd (by exact (whole_ok _).rise)) ?_))))
   rintro _ w20 ⟨rfl, hB21⟩
   replace hb := hb.trans (hB21.mono hs)
   replace hs := Nat.le_trans hs (hB21.size)
   replace o_cb8 := zB o_cb8 hB21
   replace o_cb10 := zB o_cb10 hB21
   replace o_cb11 := zB o_cb11 hB21
   replace r_q3 := r_q3.below hB21
   replace r_q4 := r_q4.below hB21
   refine K11 zY (K22 (yD .u8 ((atM 0 (wholeF (clsF litT0).1) (plainF 1425)).1) 2 ((atM 0 (wholeF (clsF litT0).1) (plainF 1425)).1 = 2) rfl (xB ((atM 0 (wholeF (clsF litT0).1) (plainF 1425)).1) 2)) ?_ ?_)
   ·intro h23
    replace h23 : (atM 0 (wholeF (clsF litT0).1) (plainF 1425)).1 = 2 := by omega
    refine K11 yU (zI (K11 zY (zI (K11 zY (K22 (yA 12 [(.pointer (some ⟨cb8, 0, none⟩)), (.int .i32 1536)]) (c_tClass cb8 cb9 cb10 q1 cb11 1536 q4 (wholeF (clsF litT0).1) _ o_cb8 o_cb11 r_q4.rd (by exact (whole_ok _).rise)) ?_)))))
    rintro _ w24 ⟨rfl, hB25⟩
    replace hb := hb.trans (hB25.mono hs)
    replace hs := Nat.le_trans hs (hB25.size)
    replace o_cb8 := zB o_cb8 hB25
    replace o_cb10 := zB o_cb10 hB25
    replace r_q3 := r_q3.below hB25
    refine K11 zY (K22 (yD .u8 ((atM 0 (wholeF (clsF litT0).1) (plainF 1536)).1) 1 ((atM 0 (wholeF (clsF litT0).1) (plainF 1536)).1 = 1) rfl (xB ((atM 0 (wholeF (clsF litT0).1) (plainF 1536)).1) 1)) ?_ ?_)
    ·intro h27
     replace h27 : (atM 0 (wholeF (clsF litT0).1) (plainF 1536)).1 = 1 := by omega
     refine K11 yU (zI (K11 zY (zI (K11 zY (K22 (yD .u8 ((atM 0 ((clsF litT0).1.1) (plainF 49)).1) 4 ((atM 0 ((clsF litT0).1.1) (plainF 49)).1 = 4) rfl (xB ((atM 0 ((clsF litT0).1.1) (plainF 49)).1) 4)) ?_ ?_)))))
     ·intro h28
      replace h28 : (atM 0 ((clsF litT0).1.1) (plainF 49)).1 = 4 := by omega
      refine K11 yU (zI (K11 zY (zI (K11 yU (zI (K11 zY (zI (K11 zY (K22 (yA 14 [(.pointer (some ⟨cb8, 0, none⟩)), (.int .i32 1488)]) (c_tLine cb8 cb9 cb10 q1 cb11 1488 q3 ((clsF litT0).1.2.1) _ o_cb8 o_cb10 r_q3.rd (by exact (cls_ok _).2.1.rise)) ?_)))))))))
      rintro _ w29 ⟨rfl, hB30⟩
      replace hb := hb.trans (hB30.mono hs)
      replace hs := Nat.le_trans hs (hB30.size)
      refine K11 zY (K22 (yD .i64 ((atM 0 ((clsF litT0).1.2.1) (plainF 1488)).1) 5 ((atM 0 ((clsF litT0).1.2.1) (plainF 1488)).1 = 5) rfl (xB ((atM 0 ((clsF litT0).1.2.1) (plainF 1488)).1) 5)) ?_ ?_)
      ·intro h32
       replace h32 : (atM 0 ((clsF litT0).1.2.1) (plainF 1488)).1 = 5 := by omega
       refine K11 yU (zJ (zE (zA (zX ?_))))
       refine zO [.tmp 0] [(.bool true)] rfl rfl ⟨by kernel_rfl, trivial⟩ ?_
       have e0 : true = true := by first | rfl | (rw [lives_tab]; kernel_rfl)
       exact ⟨congrArg Value.bool e0, hb⟩
      ·intro h33
       replace h33 : (atM 0 ((clsF litT0).1.2.1) (plainF 1488)).1 ≠ 5 := by omega
       exfalso; exact h33 (by rw [lives_tab]; kernel_rfl)
     ·intro h34
      replace h34 : (atM 0 ((clsF litT0).1.1) (plainF 49)).1 ≠ 4 := by omega
      exfalso; exact h34 (by rw [lives_tab]; kernel_rfl)
    ·intro h35
     replace h35 : (atM 0 (wholeF (clsF litT0).1) (plainF 1536)).1 ≠ 1 := by omega
     exfalso; exact h35 (by rw [lives_tab]; kernel_rfl)
   ·intro h36
    replace h36 : (atM 0 (wholeF (clsF litT0).1) (plainF 1425)).1 ≠ 2 := by omega
    exfalso; exact h36 (by rw [lives_tab]; kernel_rfl)
  ·intro h37
   replace h37 : (atM 0 (wholeF (clsF litT0).1) (plainF 49)).1 ≠ 4 := by omega
   exfalso; exact h37 (by rw [lives_tab]; kernel_rfl)
 ·intro h38
  exfalso; rw [lives_tab] at h38; exact absurd h38 (by decide +kernel)
end Go.Proofs.YtkclikfejmeblaaGreatDoor
end

/- === Wcbak === -/
section
/- Walks, written by my program walk.py out of the specification cbak.py: each theorem says what one function returns and that it leaves memory as it was. -/
namespace Go.Proofs.YtkclikfejmeblaaGreatDoor
open Go Go.RowKit Go.FK
set_option linter.unusedVariables false
set_option linter.unusedSimpArgs false
attribute [local irreducible] clsF wholeF writeC atM plainF fewC
set_option maxHeartbeats 40000000 in
set_option maxRecDepth 100000 in
theorem c_furrowlaw07_ClassesBack (s : List UInt8) (w : World) {m_ml : Int} (hml : w.cell? ⟨1, 0, none⟩ = some (.int .i64 m_ml)) :
  Calls Tryz.prog 7 #[(S s)] w (Ret fun v w' => v = (.bool true) ∧ Below w.heap.size w w') := by
 refine K11 (enter (args := [(S s)]) Tryz.func7 rfl (by kernel_rfl : _ = 82)) ?_
 have hb := Below.refl w.heap.size w
 have hs : w.heap.size ≤ w.heap.size := Nat.le_refl _
 have hxl : (writeC (clsF s).1.2.2 (clsF s).1.1).length ≤ 120 * s.length + 120 := text_len s
 have hm1 := (cls_ok s).2.2
 have hm2 : (clsF (writeC (clsF s).1.2.2 (clsF s).1.1)).1.2.2.length ≤ s.length + 1 := text_mm s
 have hm3 : (clsF (writeC (clsF s).1.2.2 (clsF s).1.1)).1.2.2 = (clsF s).1.2.2 := (text_read s).2.2
 have hm4 := congrArg List.length hm3
 refine zF (zD (zJ (zE (zA (zF (zF (zD (zI (K11 (L_slen 9 s rfl Tryz.underlying9) (K22 (yD .i64 (((s).length : Nat) : Int) ((40000 : Nat) : Int) (40000 < (s).length) rfl (cmpN_gt ((s).length) 40000)) ?_ ?_))))))))))
 ·intro h1
  replace h1 : 40000 < (s).length := by omega
  refine zI (K11 yC (K11 yC (K11 yU (zE (zA (K11 zS (zF (zD (K22 (yA 9 []) (c_lives7 _ (gcell_below hml hb)) ?_)))))))))
  rintro _ w2 ⟨rfl, hB3⟩
  replace hb := hb.trans (hB3.mono hs)
  replace hs := Nat.le_trans hs (hB3.size)
  refine zJ (zE (zA (zX (zH ?_))))
  refine zO [.tmp 2] [(.bool true)] rfl rfl ⟨by kernel_rfl, trivial⟩ ?_
  have e0 : true = true := by rfl
  exact ⟨congrArg Value.bool e0, hb⟩
 ·intro h5
  replace h5 : (s).length ≤ 40000 := by omega
  refine zI (K11 zY (K22 (yA 9 []) (c_lives7 _ (gcell_below hml hb)) ?_))
  rintro _ w6 ⟨rfl, hB7⟩
  replace hb := hb.trans (hB7.mono hs)
  replace hs := Nat.le_trans hs (hB7.size)
  refine K11 zY (K11 (L_not true) (K11 yV (zE (zA (K11 zN (zV (zA (zF (zD (zI ?_))))))))))
  by_cases hq9 : (clsF s).2.2 = 0
  ·skip
   refine K22 (yA 10 [(S ([120] : List UInt8)), (S s)]) (c_classes_Read_ok ([120] : List UInt8) s _ (gcell_below hml hb) (by first | omega | assumption | (simp; done)) (by with_reducible assumption)) ?_
   rintro _ w14 ⟨q10, q11, q12, q13, cb17, cb18, cb19, cb20, rfl, r_q10, r_q11, r_q12, r_q13, o_cb17, g_cb17, o_cb18, g_cb18, o_cb19, g_cb19, o_cb20, g_cb20, ne_cb17_cb18, ne_cb17_cb19, ne_cb17_cb20, ne_cb18_cb19, ne_cb18_cb20, ne_cb19_cb20, hB15⟩
   replace g_cb17 := Nat.le_trans hs g_cb17
   replace g_cb18 := Nat.le_trans hs g_cb18
   replace g_cb19 := Nat.le_trans hs g_cb19
   replace g_cb20 := Nat.le_trans hs g_cb20
   replace r_q10 := r_q10.base hs
   replace r_q11 := r_q11.base hs
   replace r_q12 := r_q12.base hs
   replace r_q13 := r_q13.base hs
   replace hb := hb.trans (hB15.mono hs)
   replace hs := Nat.le_trans hs (hB15.size)
   refine zI (K21 (zQ (.pointer (some ⟨cb17, 0, none⟩))) (K21 (zQ .nilIface) (zJ (zJ (zE (zA (zF (zF (zD (zI (K21 (zQ (.bool false)) (zE (zA (K11 zN (zV (zA (zF (zD (zI (K22 (yA 15 [(.pointer (some ⟨cb17, 0, none⟩))]) (c_tWrite cb17 cb18 cb19 q10 ((clsF s).1.2.2) cb20 q11 ((clsF s).1.1) _ o_cb17 r_q10.rd o_cb18 r_q11.rd (by with_reducible exact (cls_cls _).2) (by with_reducible exact (cls_cls _).1) (by omega) (by with_reducible exact (cls_ok _).1.rise.len)) ?_))))))))))))))))))))
   rintro _ w21 ⟨rfl, hB22⟩
   replace hb := hb.trans (hB22.mono hs)
   replace hs := Nat.le_trans hs (hB22.size)
   replace o_cb17 := zB o_cb17 hB22
   replace o_cb18 := zB o_cb18 hB22
   replace o_cb19 := zB o_cb19 hB22
   replace o_cb20 := zB o_cb20 hB22
   replace r_q10 := r_q10.below hB22
   replace r_q11 := r_q11.below hB22
   replace r_q12 := r_q12.below hB22
   replace r_q13 := r_q13.below hB22
   have := write_lenC ((clsF s).1.2.2) ((clsF s).1.1)
   refine zJ (zE (zA (zF (zD (zI ?_)))))
   by_cases hq24 : (clsF (writeC ((clsF s).1.2.2) ((clsF s).1.1))).2.2 = 0
   ·skip
    refine K22 (yA 10 [(S ([121] : List UInt8)), (S (writeC ((clsF s).1.2.2) ((clsF s).1.1)))]) (c_classes_Read_ok ([121] : List UInt8) (writeC ((clsF s).1.2.2) ((clsF s).1.1)) _ (gcell_below hml hb) (by first | omega | assumption | (simp; done)) (by with_reducible assumption)) ?_
    rintro _ w29 ⟨q25, q26, q27, q28, cb32, cb33, cb34, cb35, rfl, r_q25, r_q26, r_q27, r_q28, o_cb32, g_cb32, o_cb33, g_cb33, o_cb34, g_cb34, o_cb35, g_cb35, ne_cb32_cb33, ne_cb32_cb34, ne_cb32_cb35, ne_cb33_cb34, ne_cb33_cb35, ne_cb34_cb35, hB30⟩
    replace g_cb32 := Nat.le_trans hs g_cb32
    replace g_cb33 := Nat.le_trans hs g_cb33
    replace g_cb34 := Nat.le_trans hs g_cb34
    replace g_cb35 := Nat.le_trans hs g_cb35
    replace r_q25 := r_q25.base hs
    replace r_q26 := r_q26.base hs
    replace r_q27 := r_q27.base hs
    replace r_q28 := r_q28.base hs
    replace hb := hb.trans (hB30.mono hs)
    replace hs := Nat.le_trans hs (hB30.size)
    replace o_cb17 := zB o_cb17 hB30
    replace o_cb18 := zB o_cb18 hB30
    replace o_cb19 := zB o_cb19 hB30
    replace o_cb20 := zB o_cb20 hB30
    replace r_q10 := r_q10.below hB30
    replace r_q11 := r_q11.below hB30
    replace r_q12 := r_q12.below hB30
    replace r_q13 := r_q13.below hB30
    refine zI (K21 (zQ (.pointer (some ⟨cb32, 0, none⟩))) (K21 (zQ .nilIface) (zJ (zJ (zE (zA (zF (zF (zD (zI (K21 (zQ (.bool false)) (zI (K11 zY (zI (K11 zY (K21 (zQ (.bool false)) (K11 yV (zI (K11 zY (zI (K11 zY (K22 (yA 15 [(.pointer (some ⟨cb32, 0, none⟩))]) (c_tWrite cb32 cb33 cb34 q25 ((clsF (writeC ((clsF s).1.2.2) ((clsF s).1.1))).1.2.2) cb35 q26 ((clsF (writeC ((clsF s).1.2.2) ((clsF s).1.1))).1.1) _ o_cb32 r_q25.rd o_cb33 r_q26.rd (by with_reducible exact (cls_cls _).2) (by with_reducible exact (cls_cls _).1) (by omega) (by with_reducible exact (cls_ok _).1.rise.len)) ?_))))))))))))))))))))))
    rintro _ w36 ⟨rfl, hB37⟩
    replace hb := hb.trans (hB37.mono hs)
    replace hs := Nat.le_trans hs (hB37.size)
    replace o_cb17 := zB o_cb17 hB37
    replace o_cb18 := zB o_cb18 hB37
    replace o_cb19 := zB o_cb19 hB37
    replace o_cb20 := zB o_cb20 hB37
    replace o_cb32 := zB o_cb32 hB37
    replace o_cb33 := zB o_cb33 hB37
    replace o_cb34 := zB o_cb34 hB37
    replace o_cb35 := zB o_cb35 hB37
    replace r_q10 := r_q10.below hB37
    replace r_q11 := r_q11.below hB37
    replace r_q12 := r_q12.below hB37
    replace r_q13 := r_q13.below hB37
    replace r_q25 := r_q25.below hB37
    replace r_q26 := r_q26.below hB37
    replace r_q27 := r_q27.below hB37
    replace r_q28 := r_q28.below hB37
    have := write_lenC ((clsF (writeC ((clsF s).1.2.2) ((clsF s).1.1))).1.2.2) ((clsF (writeC ((clsF s).1.2.2) ((clsF s).1.1))).1.1)
    refine K11 zY (zI (K11 zY (K22 (L_sne (writeC ((clsF (writeC ((clsF s).1.2.2) ((clsF s).1.1))).1.2.2) ((clsF (writeC ((clsF s).1.2.2) ((clsF s).1.1))).1.1)) (writeC ((clsF s).1.2.2) ((clsF s).1.1)) rfl) ?_ ?_)))
    ·intro h39
     exfalso; exact h39 (text_text s)
    ·intro h40
     refine K11 yV (zE (zA (K11 zN (zV (zA (zF (zD (zI (K22 (yA 16 [(.pointer (some ⟨cb17, 0, none⟩))]) (c_tMissing cb17 cb18 cb19 q10 ((clsF s).1.2.2) cb20 _ o_cb17 r_q10.rd (by omega)) ?_)))))))))
     rintro q41 w42 ⟨_, rfl, r_q41, hB43⟩
     replace r_q41 := r_q41.base hs
     replace hb := hb.trans (hB43.mono hs)
     replace hs := Nat.le_trans hs (hB43.size)
     replace o_cb17 := zB o_cb17 hB43
     replace o_cb18 := zB o_cb18 hB43
     replace o_cb19 := zB o_cb19 hB43
     replace o_cb20 := zB o_cb20 hB43
     replace o_cb32 := zB o_cb32 hB43
     replace o_cb33 := zB o_cb33 hB43
     replace o_cb34 := zB o_cb34 hB43
     replace o_cb35 := zB o_cb35 hB43
     replace r_q10 := r_q10.below hB43
     replace r_q11 := r_q11.below hB43
     replace r_q12 := r_q12.below hB43
     replace r_q13 := r_q13.below hB43
     replace r_q25 := r_q25.below hB43
     replace r_q26 := r_q26.below hB43
     replace r_q27 := r_q27.below hB43
     replace r_q28 := r_q28.below hB43
     refine zI (K22 (yA 16 [(.pointer (some ⟨cb32, 0, none⟩))]) (c_tMissing cb32 cb33 cb34 q25 ((clsF (writeC ((clsF s).1.2.2) ((clsF s).1.1))).1.2.2) cb35 _ o_cb32 r_q25.rd (by omega)) ?_)
     rintro q45 w46 ⟨_, rfl, r_q45, hB47⟩
     replace r_q45 := r_q45.base hs
     replace hb := hb.trans (hB47.mono hs)
     replace hs := Nat.le_trans hs (hB47.size)
     replace o_cb17 := zB o_cb17 hB47
     replace o_cb18 := zB o_cb18 hB47
     replace o_cb19 := zB o_cb19 hB47
     replace o_cb20 := zB o_cb20 hB47
     replace o_cb32 := zB o_cb32 hB47
     replace o_cb33 := zB o_cb33 hB47
     replace o_cb34 := zB o_cb34 hB47
     replace o_cb35 := zB o_cb35 hB47
     replace r_q10 := r_q10.below hB47
     replace r_q11 := r_q11.below hB47
     replace r_q12 := r_q12.below hB47
     replace r_q13 := r_q13.below hB47
     replace r_q25 := r_q25.below hB47
     replace r_q26 := r_q26.below hB47
     replace r_q27 := r_q27.below hB47
     replace r_q28 := r_q28.below hB47
     replace r_q41 := r_q41.below hB47
     refine zJ (zJ (zE (zA ?_)))
     refine W_cut (fun s0 w0 => (s0.ds = []) ∧ (s0.f 3 = (.pointer (some ⟨cb17, 0, none⟩))) ∧ (s0.f 6 = (.pointer (some ⟨cb32, 0, none⟩))) ∧ (s0.f 7 = q41) ∧ (s0.f 8 = q45) ∧ (Row w0 w.heap.size 45 3 encSpanC q10 ((clsF s).1.2.2)) ∧ (Row w0 w.heap.size 126 3 encSpanC q11 ((clsF s).1.1)) ∧ (Row w0 w.heap.size 131 3 encSpanI q12 ((clsF s).1.2.1)) ∧ (Row w0 w.heap.size 126 3 encSpanC q13 (wholeF (clsF s).1)) ∧ (Row w0 w.heap.size 45 3 encSpanC q25 ((clsF (writeC ((clsF s).1.2.2) ((clsF s).1.1))).1.2.2)) ∧ (Row w0 w.heap.size 126 3 encSpanC q26 ((clsF (writeC ((clsF s).1.2.2) ((clsF s).1.1))).1.1)) ∧ (Row w0 w.heap.size 131 3 encSpanI q27 ((clsF (writeC ((clsF s).1.2.2) ((clsF s).1.1))).1.2.1)) ∧ (Row w0 w.heap.size 126 3 encSpanC q28 (wholeF (clsF (writeC ((clsF s).1.2.2) ((clsF s).1.1))).1)) ∧ (Row w0 w.heap.size 45 3 encSpanC q41 ((clsF s).1.2.2)) ∧ (Row w0 w.heap.size 45 3 encSpanC q45 ((clsF (writeC ((clsF s).1.2.2) ((clsF s).1.1))).1.2.2)) ∧ (w0.heap[cb17]? = some (.cells [(.pointer (some ⟨cb18, 0, none⟩)), (.pointer (some ⟨cb19, 0, none⟩)), q10, (.pointer (some ⟨cb20, 0, none⟩))].toArray 66 (0, 0))) ∧ (w0.heap[cb18]? = some (.cells [q11, (.bool true)].toArray 115 (0, 0))) ∧ (w0.heap[cb19]? = some (.cells [q12, (.bool true)].toArray 118 (0, 0))) ∧ (w0.heap[cb20]? = some (.cells [q13, (.bool true)].toArray 115 (0, 0))) ∧ (w0.heap[cb32]? = some (.cells [(.pointer (some ⟨cb33, 0, none⟩)), (.pointer (some ⟨cb34, 0, none⟩)), q25, (.pointer (some ⟨cb35, 0, none⟩))].toArray 66 (0, 0))) ∧ (w0.heap[cb33]? = some (.cells [q26, (.bool true)].toArray 115 (0, 0))) ∧ (w0.heap[cb34]? = some (.cells [q27, (.bool true)].toArray 118 (0, 0))) ∧ (w0.heap[cb35]? = some (.cells [q28, (.bool true)].toArray 115 (0, 0))) ∧ (Below w.heap.size w w0) ∧ (w.heap.size ≤ w0.heap.size)) ?_ ?_
     ·refine zF (zD (zI (K11 (L_len 42 45 (((clsF s).1.2.2)).length q41 rfl Tryz.underlying42 (r_q41.rd).len) (zI (K11 (L_len 42 45 (((clsF (writeC ((clsF s).1.2.2) ((clsF s).1.1))).1.2.2)).length q45 rfl Tryz.underlying42 (r_q45.rd).len) (K22 (yD .i64 (((((clsF s).1.2.2)).length : Nat) : Int) (((((clsF (writeC ((clsF s).1.2.2) ((clsF s).1.1))).1.2.2)).length : Nat) : Int) ((((clsF s).1.2.2)).length ≠ (((clsF (writeC ((clsF s).1.2.2) ((clsF s).1.1))).1.2.2)).length) rfl (cmpN_ne ((((clsF s).1.2.2)).length) ((((clsF (writeC ((clsF s).1.2.2) ((clsF s).1.1))).1.2.2)).length))) ?_ ?_))))))
      ·intro h49
       replace h49 : (((clsF s).1.2.2)).length ≠ (((clsF (writeC ((clsF s).1.2.2) ((clsF s).1.1))).1.2.2)).length := by omega
       exfalso; omega
      ·intro h50
       replace h50 : (((clsF s).1.2.2)).length = (((clsF (writeC ((clsF s).1.2.2) ((clsF s).1.1))).1.2.2)).length := by omega
       refine zE (zA (K11 zN (zV ?_)))
       refine zA ⟨rfl, by kernel_rfl, by kernel_rfl, by kernel_rfl, by kernel_rfl, r_q10, r_q11, r_q12, r_q13, r_q25, r_q26, r_q27, r_q28, r_q41, r_q45, o_cb17, o_cb18, o_cb19, o_cb20, o_cb32, o_cb33, o_cb34, o_cb35, hb, hs⟩
     ·rintro s51 w52 ⟨hds, f_3, f_6, f_7, f_8, r_q10, r_q11, r_q12, r_q13, r_q25, r_q26, r_q27, r_q28, r_q41, r_q45, o_cb17, o_cb18, o_cb19, o_cb20, o_cb32, o_cb33, o_cb34, o_cb35, hb, hs⟩
      refine yK 3 _ f_3 (yK 6 _ f_6 (yK 7 _ f_7 (yK 8 _ f_8 ?_)))
      clear f_3 f_6 f_7 f_8
      refine zF (zF (zD (zJ (zE (zA (yP ?_))))))
      refine W_loop (fun m s0 w0 => ∃ (i : Nat), (m = (clsF s).1.2.2.length - i) ∧ (s0.ds = []) ∧ (s0.f 3 = (.pointer (some ⟨cb17, 0, none⟩))) ∧ (s0.f 6 = (.pointer (some ⟨cb32, 0, none⟩))) ∧ (s0.f 7 = q41) ∧ (s0.f 8 = q45) ∧ (s0.f 9 = (.int .i64 ((i : Nat) : Int))) ∧ (Row w0 w.heap.size 45 3 encSpanC q10 ((clsF s).1.2.2)) ∧ (Row w0 w.heap.size 126 3 encSpanC q11 ((clsF s).1.1)) ∧ (Row w0 w.heap.size 131 3 encSpanI q12 ((clsF s).1.2.1)) ∧ (Row w0 w.heap.size 126 3 encSpanC q13 (wholeF (clsF s).1)) ∧ (Row w0 w.heap.size 45 3 encSpanC q25 ((clsF (writeC ((clsF s).1.2.2) ((clsF s).1.1))).1.2.2)) ∧ (Row w0 w.heap.size 126 3 encSpanC q26 ((clsF (writeC ((clsF s).1.2.2) ((clsF s).1.1))).1.1)) ∧ (Row w0 w.heap.size 131 3 encSpanI q27 ((clsF (writeC ((clsF s).1.2.2) ((clsF s).1.1))).1.2.1)) ∧ (Row w0 w.heap.size 126 3 encSpanC q28 (wholeF (clsF (writeC ((clsF s).1.2.2) ((clsF s).1.1))).1)) ∧ (Row w0 w.heap.size 45 3 encSpanC q41 ((clsF s).1.2.2)) ∧ (Row w0 w.heap.size 45 3 encSpanC q45 ((clsF (writeC ((clsF s).1.2.2) ((clsF s).1.1))).1.2.2)) ∧ (w0.heap[cb17]? = some (.cells [(.pointer (some ⟨cb18, 0, none⟩)), (.pointer (some ⟨cb19, 0, none⟩)), q10, (.pointer (some ⟨cb20, 0, none⟩))].toArray 66 (0, 0))) ∧ (w0.heap[cb18]? = some (.cells [q11, (.bool true)].toArray 115 (0, 0))) ∧ (w0.heap[cb19]? = some (.cells [q12, (.bool true)].toArray 118 (0, 0))) ∧ (w0.heap[cb20]? = some (.cells [q13, (.bool true)].toArray 115 (0, 0))) ∧ (w0.heap[cb32]? = some (.cells [(.pointer (some ⟨cb33, 0, none⟩)), (.pointer (some ⟨cb34, 0, none⟩)), q25, (.pointer (some ⟨cb35, 0, none⟩))].toArray 66 (0, 0))) ∧ (w0.heap[cb33]? = some (.cells [q26, (.bool true)].toArray 115 (0, 0))) ∧ (w0.heap[cb34]? = some (.cells [q27, (.bool true)].toArray 118 (0, 0))) ∧ (w0.heap[cb35]? = some (.cells [q28, (.bool true)].toArray 115 (0, 0))) ∧ (Below w.heap.size w w0) ∧ (w.heap.size ≤ w0.heap.size) ∧ (i ≤ (clsF s).1.2.2.length)) _ ⟨0, rfl, hds, by kernel_rfl, by kernel_rfl, by kernel_rfl, by kernel_rfl, by kernel_rfl, r_q10, r_q11, r_q12, r_q13, r_q25, r_q26, r_q27, r_q28, r_q41, r_q45, o_cb17, o_cb18, o_cb19, o_cb20, o_cb32, o_cb33, o_cb34, o_cb35, hb, hs, (Nat.zero_le _)⟩ ?_
      rintro m53 s54 w55 ⟨i, hm, hds, f_3, f_6, f_7, f_8, f_9, r_q10, r_q11, r_q12, r_q13, r_q25, r_q26, r_q27, r_q28, r_q41, r_q45, o_cb17, o_cb18, o_cb19, o_cb20, o_cb32, o_cb33, o_cb34, o_cb35, hb, hs, i1⟩
      refine yK 3 _ f_3 (yK 6 _ f_6 (yK 7 _ f_7 (yK 8 _ f_8 (yK 9 _ f_9 ?_))))
      clear f_3 f_6 f_7 f_8 f_9
      refine zF (zF (zD (zI (zI (K11 (L_len 42 45 (((clsF s).1.2.2)).length q41 rfl Tryz.underlying42 (r_q41.rd).len) (K22 (yD .i64 ((i : Nat) : Int) (((((clsF s).1.2.2)).length : Nat) : Int) (i < (((clsF s).1.2.2)).length) rfl (cmpN_lt i ((((clsF s).1.2.2)).length))) ?_ ?_))))))
      ·intro h56
       replace h56 : i < (((clsF s).1.2.2)).length := by omega
       refine zE (zA (K11 zS (zV (zA (zF (yP (zF (K21 W_quiet (yI (yI ?_))))))))))
       have hz := yT ((clsF s).1.2.2) i (by first | omega | assumption | (simp; done)); obtain ⟨x57, hx58⟩ := hz
       have hz := (r_q41.rd).at (k := 3) (fun _ => rfl) hx58
       obtain ⟨g59, off60, hl61, hc62⟩ := hz
       refine K21 (Lq_ixaddr (k := .i64) q41 i _ g59 off60 el42 hl61 (by first | omega | assumption | (simp; done))) (K14 (Lq_loadA g59 (off60 + i * 3) [(.int .i32 x57.1), (.int .i32 x57.2.1), (.int .u8 x57.2.2)]) (fun _ => by kernel_rfl) (fun _ => by kernel_rfl) hc62 (yI (yI ?_)))
       have hz := yT ((clsF (writeC ((clsF s).1.2.2) ((clsF s).1.1))).1.2.2) i (by first | omega | assumption | (simp; done)); obtain ⟨x63, hx64⟩ := hz
       have hz := (r_q45.rd).at (k := 3) (fun _ => rfl) hx64
       obtain ⟨g65, off66, hl67, hc68⟩ := hz
       refine K21 (Lq_ixaddr (k := .i64) q45 i _ g65 off66 el42 hl67 (by first | omega | assumption | (simp; done))) (K14 (Lq_loadA g65 (off66 + i * 3) [(.int .i32 x63.1), (.int .i32 x63.2.1), (.int .u8 x63.2.2)]) (fun _ => by kernel_rfl) (fun _ => by kernel_rfl) hc68 (K33 (Lq_aggne [(.int .i32 x57.1), (.int .i32 x57.2.1), (.int .u8 x57.2.2)] [(.int .i32 x63.1), (.int .i32 x63.2.1), (.int .u8 x63.2.2)] (x57.1 == x63.1 && x57.2.1 == x63.2.1 && x57.2.2 == x63.2.2)) (eqagg45 x57.1 x57.2.1 x57.2.2 x63.1 x63.2.1 x63.2.2) ?_ ?_))
       ·intro h69
        exfalso; exact sp_ne h69 (el_same hm3 (by assumption) (by assumption))
       ·intro h70
        replace h70 : x57.1 = x63.1 ∧ x57.2.1 = x63.2.1 ∧ x57.2.2 = x63.2.2 := by simpa [and_assoc] using h70
        refine xF ?_
        intro w71 hB72
        replace hb := hb.trans (hB72.mono hs)
        replace hs := Nat.le_trans hs (hB72.size)
        replace o_cb17 := zB o_cb17 hB72
        replace o_cb18 := zB o_cb18 hB72
        replace o_cb19 := zB o_cb19 hB72
        replace o_cb20 := zB o_cb20 hB72
        replace o_cb32 := zB o_cb32 hB72
        replace o_cb33 := zB o_cb33 hB72
        replace o_cb34 := zB o_cb34 hB72
        replace o_cb35 := zB o_cb35 hB72
        replace r_q10 := r_q10.below hB72
        replace r_q11 := r_q11.below hB72
        replace r_q12 := r_q12.below hB72
        replace r_q13 := r_q13.below hB72
        replace r_q25 := r_q25.below hB72
        replace r_q26 := r_q26.below hB72
        replace r_q27 := r_q27.below hB72
        replace r_q28 := r_q28.below hB72
        replace r_q41 := r_q41.below hB72
        replace r_q45 := r_q45.below hB72
        refine zA (K11 zN (zV (zP (zA (zD (zI (K21 (xD i 1 (by omega)) (zJ (zE ?_)))))))))
        refine zA ⟨_, ?_, (i + 1), rfl, hds, by kernel_rfl, by kernel_rfl, by kernel_rfl, by kernel_rfl, by kernel_rfl, r_q10, r_q11, r_q12, r_q13, r_q25, r_q26, r_q27, r_q28, r_q41, r_q45, o_cb17, o_cb18, o_cb19, o_cb20, o_cb32, o_cb33, o_cb34, o_cb35, hb, hs, ?_⟩
        ·omega
        ·omega
      ·intro h73
       replace h73 : (((clsF s).1.2.2)).length ≤ i := by omega
       refine zE (zA (K11 zN (W_exit (yM (yM (xM (zA (zF (zD (zI (K22 (yA 11 [(.pointer (some ⟨cb17, 0, none⟩)), (.bool false), (.int .i64 (-1))]) (c_toldN cb17 cb18 cb19 q10 cb20 (-1) q11 ((clsF s).1.1) _ o_cb17 o_cb18 r_q11.rd (by with_reducible exact (cls_ok _).1.rise.len)) ?_)))))))))))
       rintro q74 w75 ⟨_, rfl, r_q74, hB76⟩
       replace r_q74 := r_q74.base hs
       replace hb := hb.trans (hB76.mono hs)
       replace hs := Nat.le_trans hs (hB76.size)
       replace o_cb17 := zB o_cb17 hB76
       replace o_cb20 := zB o_cb20 hB76
       replace o_cb32 := zB o_cb32 hB76
       replace o_cb33 := zB o_cb33 hB76
       replace o_cb35 := zB o_cb35 hB76
       replace r_q13 := r_q13.below hB76
       replace r_q26 := r_q26.below hB76
       replace r_q28 := r_q28.below hB76
       refine zI (K22 (yA 11 [(.pointer (some ⟨cb32, 0, none⟩)), (.bool false), (.int .i64 (-1))]) (c_toldN cb32 cb33 cb34 q25 cb35 (-1) q26 ((clsF (writeC ((clsF s).1.2.2) ((clsF s).1.1))).1.1) _ o_cb32 o_cb33 r_q26.rd (by with_reducible exact (cls_ok _).1.rise.len)) ?_)
       rintro q78 w79 ⟨_, rfl, r_q78, hB80⟩
       replace r_q78 := r_q78.base hs
       replace hb := hb.trans (hB80.mono hs)
       replace hs := Nat.le_trans hs (hB80.size)
       replace o_cb17 := zB o_cb17 hB80
       replace o_cb20 := zB o_cb20 hB80
       replace o_cb32 := zB o_cb32 hB80
       replace o_cb35 := zB o_cb35 hB80
       replace r_q13 := r_q13.below hB80
       replace r_q28 := r_q28.below hB80
       replace r_q74 := r_q74.below hB80
       refine K22 (yA 17 [q74, q78, (.int .i64 (-1))]) (c_same7 q74 (fewC ((clsF s).1.1) (-1)) q78 (fewC ((clsF (writeC ((clsF s).1.2.2) ((clsF s).1.1))).1.1) (-1)) (-1) _ r_q74.rd r_q78.rd (by (refine Nat.le_trans (few_len _ _) (Nat.le_trans (by first | with_reducible exact (cls_ok _).1.rise.len | with_reducible exact (whole_ok _).rise.len) (by decide)))) (by (refine Nat.le_trans (few_len _ _) (Nat.le_trans (by first | with_reducible exact (cls_ok _).1.rise.len | with_reducible exact (whole_ok _).rise.len) (by decide))))) ?_
       rintro _ w82 ⟨rfl, hB83⟩
       replace hb := hb.trans (hB83.mono hs)
       replace hs := Nat.le_trans hs (hB83.size)
       replace o_cb17 := zB o_cb17 hB83
       replace o_cb20 := zB o_cb20 hB83
       replace o_cb32 := zB o_cb32 hB83
       replace o_cb35 := zB o_cb35 hB83
       replace r_q13 := r_q13.below hB83
       replace r_q28 := r_q28.below hB83
       refine xK (decide ((fewC ((clsF s).1.1) (-1)) = fewC (fewC ((clsF (writeC ((clsF s).1.2.2) ((clsF s).1.1))).1.1) (-1)) (-1))) ?_ ?_
       ·intro h85
        refine zI (K11 zY (zI (K11 zY (K22 (yA 11 [(.pointer (some ⟨cb17, 0, none⟩)), (.bool true), (.int .i64 (-1))]) (c_toldW cb17 cb18 cb19 q10 cb20 (-1) q13 (wholeF (clsF s).1) _ o_cb17 o_cb20 r_q13.rd (by with_reducible exact (whole_ok _).rise.len)) ?_))))
        rintro q86 w87 ⟨_, rfl, r_q86, hB88⟩
        replace r_q86 := r_q86.base hs
        replace hb := hb.trans (hB88.mono hs)
        replace hs := Nat.le_trans hs (hB88.size)
        replace o_cb32 := zB o_cb32 hB88
        replace o_cb35 := zB o_cb35 hB88
        replace r_q28 := r_q28.below hB88
        refine K11 zY (zI (K11 zY (K22 (yA 11 [(.pointer (some ⟨cb32, 0, none⟩)), (.bool true), (.int .i64 (-1))]) (c_toldW cb32 cb33 cb34 q25 cb35 (-1) q28 (wholeF (clsF (writeC ((clsF s).1.2.2) ((clsF s).1.1))).1) _ o_cb32 o_cb35 r_q28.rd (by with_reducible exact (whole_ok _).rise.len)) ?_)))
        rintro q90 w91 ⟨_, rfl, r_q90, hB92⟩
        replace r_q90 := r_q90.base hs
        replace hb := hb.trans (hB92.mono hs)
        replace hs := Nat.le_trans hs (hB92.size)
        replace r_q86 := r_q86.below hB92
        refine K11 zY (K22 (yA 17 [q86, q90, (.int .i64 (-1))]) (c_same7 q86 (fewC (wholeF (clsF s).1) (-1)) q90 (fewC (wholeF (clsF (writeC ((clsF s).1.2.2) ((clsF s).1.1))).1) (-1)) (-1) _ r_q86.rd r_q90.rd (by (refine Nat.le_trans (few_len _ _) (Nat.le_trans (by first | with_reducible exact (cls_ok _).1.rise.len | with_reducible exact (whole_ok _).rise.len) (by decide)))) (by (refine Nat.le_trans (few_len _ _) (Nat.le_trans (by first | with_reducible exact (cls_ok _).1.rise.len | with_reducible exact (whole_ok _).rise.len) (by decide))))) ?_)
        rintro _ w94 ⟨rfl, hB95⟩
        replace hb := hb.trans (hB95.mono hs)
        replace hs := Nat.le_trans hs (hB95.size)
        refine xK (decide ((fewC (wholeF (clsF s).1) (-1)) = fewC (fewC (wholeF (clsF (writeC ((clsF s).1.2.2) ((clsF s).1.1))).1) (-1)) (-1))) ?_ ?_
        ·intro h97
         refine K11 yU (zJ (zE (zA (zX ?_))))
         refine zO [.tmp 2] [(.bool true)] rfl hds ⟨by kernel_rfl, trivial⟩ ?_
         have e0 : true = true := by rfl
         exact ⟨congrArg Value.bool e0, hb⟩
        ·intro h98
         exfalso; first | exact absurd ((same_bk (text_read s).2.1).symm.trans h98) (by decide) | exact absurd ((same_bk (text_whole s)).symm.trans h98) (by decide)
       ·intro h99
        exfalso; first | exact absurd ((same_bk (text_read s).2.1).symm.trans h99) (by decide) | exact absurd ((same_bk (text_whole s)).symm.trans h99) (by decide)
   ·skip
    exfalso; exact hq24 (text_read s).1
  ·skip
   refine K22 (yA 10 [(S ([120] : List UInt8)), (S s)]) (c_classes_Read_bad ([120] : List UInt8) s _ (gcell_below hml hb) (by first | omega | assumption | (simp; done)) (by with_reducible assumption)) ?_
   rintro _ w100 ⟨cb103, rfl, o_cb103, g_cb103, hB101⟩
   replace g_cb103 := Nat.le_trans hs g_cb103
   replace hb := hb.trans (hB101.mono hs)
   replace hs := Nat.le_trans hs (hB101.size)
   refine zI (K21 (zQ (.pointer none)) (K21 (zQ (.iface 73 (.pointer (some ⟨cb103, 0, none⟩)))) (zJ (zJ (zE (zA (zF (zF (zD (zI (K21 (zQ (.bool true)) (zE (zA (K11 zS (zF (zD (zI (K21 (zQ (.bool true)) (zJ (zE (zA (zX (zH ?_)))))))))))))))))))))))
   refine zO [.tmp 2] [(.bool true)] rfl rfl ⟨by kernel_rfl, trivial⟩ ?_
   have e0 : true = true := by rfl
   exact ⟨congrArg Value.bool e0, hb⟩
end Go.Proofs.YtkclikfejmeblaaGreatDoor
end
